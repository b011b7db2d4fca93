/- Contracts and plain laws of several functions, one after the other: LangA, PlainM, WordP. -/
import Derived.Deep.QuietTactic
import Derived.Deep.RegionHeld3
import Derived.Maps.RangeWalk
import Derived.Maps.OwnSet
import Derived.Sort.KeysCollected
import Derived.Test.YthpgeeaccmgbkaaGreatPart5
import Derived.Test.YthpgeeaccmgbkaaGreatPart6
import Derived.Test.YthpgeeaccmgbkaaGreatPart8
import Derived.Test.YthpgeeaccmgbkaaGreatPart12
/- language.check, step at valid graphs; the set behind a word. -/
namespace Go.Proofs.YthpgeeaccmgbkaaGreat
open Go.RowKit

theorem gstep_any (L S label : Int) (es : List E3) (v vs : Value) (set : List Int) (w : World) (hes : Row w v es.length (ce es)) (hset : Row w vs set.length (ci set)) (hok : okEs es) (hchk : chk L S es = 0) (hs : IsSet S set) (hl : 0 ≤ label ∧ label < L) :
    Calls Tryz.prog 120 #[.agg #[.int .i64 L, .int .i64 S, v], vs, .int .i64 label] w (StepRet w (stepR es label set)) :=
  callsIn_wide.1 (step_in L S label es v vs set w hes hset hok hchk hs hl)
/-- The label of a letter. -/
def lbL (c : UInt8) : Int := Lib.indexByte letters c
/-- The set behind a word. -/
def efold (es : List E3) : List UInt8 → List Int → List Int
  | [], set => set
  | c :: t, set => efold es t (stepR es (lbL c) set)
theorem efold_snoc (es : List E3) (c : UInt8) : ∀ (l : List UInt8) (set : List Int), efold es (l ++ [c]) set = stepR es (lbL c) (efold es l set)
  | [], set => rfl
  | d :: t, set => by rw [List.cons_append, efold, efold_snoc es c t, efold]
theorem efold_append (es : List E3) : ∀ (l r : List UInt8) (set : List Int), efold es (l ++ r) set = efold es r (efold es l set)
  | [], _, _ => rfl
  | d :: t, r, set => by rw [List.cons_append, efold, efold_append es t, efold]
theorem stepR_none (es : List E3) (label : Int) : stepR es label [] = [] := by
  cases h : stepR es label [] with
  | nil => rfl
  | cons a l =>
    have h1 : a ∈ stepR es label [] := by rw [h]; simp
    obtain ⟨e, -, h2, -⟩ := mem_stepR.1 h1
    cases h2
theorem efold_none (es : List E3) : ∀ l : List UInt8, efold es l [] = []
  | [] => rfl
  | c :: t => by rw [efold, stepR_none, efold_none es t]
theorem lbL_get : ∀ i : Fin 16, lbL (letters.getD i.val 0) = (i.val : Int) := by decide +kernel
theorem lbL_letL {l : Int} (h0 : 0 ≤ l) (h1 : l < 16) : lbL (letL l) = l := by
  have h := lbL_get ⟨l.toNat, by omega⟩
  rw [letL, h]
  show ((l.toNat : Nat) : Int) = l
  omega
theorem lbL_range {L : Int} {c : UInt8} (h0 : 1 ≤ L) (h1 : L ≤ 16) (h : isLetter L.toNat c = true) : 0 ≤ lbL c ∧ lbL c < L := by
  unfold isLetter at h
  rw [List.contains_iff_mem] at h
  obtain ⟨i, hi, hc⟩ := List.mem_iff_getElem.1 h
  have h16 : letters.length = 16 := rfl
  rw [List.length_take, h16] at hi
  have hc2 : letters.getD i 0 = c := by
    rw [List.getElem_take] at hc
    rw [List.getD_eq_getElem?_getD, List.getElem?_eq_getElem (by omega), hc]
    rfl
  have h2 := lbL_get ⟨i, by omega⟩
  rw [hc2] at h2
  rw [h2]
  exact ⟨by omega, by show (i : Int) < L; omega⟩
theorem stepR_in {L S : Int} {es : List E3} (h : chk L S es = 0) (label : Int) (set : List Int) : IsSet S (stepR es label set) := by
  refine ⟨fun t ht => ?_, stepR_sorted _ _ _⟩
  obtain ⟨e, he, _, _, rfl⟩ := mem_stepR.1 ht
  have h1 := (chk_all h).2.2.2.2 e he
  unfold edgeBad at h1
  omega
theorem efold_set {L S : Int} {es : List E3} (h : chk L S es = 0) : ∀ (l : List UInt8) (set : List Int), IsSet S set → IsSet S (efold es l set)
  | [], _, hs => hs
  | c :: t, set, _ => efold_set h t _ (stepR_in h (lbL c) set)
set_option maxRecDepth 100000 in
set_option maxHeartbeats 3200000 in
theorem lcheck_ok (L S : Int) (es : List E3) (v : Value) (w : World) (hr : Row w v es.length (ce es)) (hok : okEs es) (hc : chk L S es = 0) (hL : L ≤ 16) :
    Calls Tryz.prog 100 #[.agg #[.int .i64 L, .int .i64 S, v]] w (Ret w (.int .i64 0)) := by
  obtain ⟨va, vc, rfl, hle⟩ := hr.slice
  have s0 := (Below.refl w.heap.size w).alloc (Nat.le_refl _) (.cells #[.int .i64 L, .int .i64 S, .slice va es.length vc] 24)
  have b0 := Blk.new w 24 [.int .i64 L, .int .i64 S, .slice va es.length vc]
  have hck := check_any L S es _ _ (hr.below s0 (Nat.le_refl _)) hok
  rw [hc] at hck
  obtain ⟨mm, hmm⟩ : ∃ mm, mm = es.length := ⟨_, rfl⟩
  rw [← hmm] at s0 b0 hck
  have hL2 : ¬ 16 < L := by omega
  have HMM := Lib.hid hmm; clear hmm
  have HCK := Lib.hid hck; clear hck
  have S0 := Lib.hid s0; clear s0
  have B0 := Lib.hid b0; clear b0
  clear hr hok hc
  go_enter Tryz.func100, Tryz.ntmps100
  rw [← HMM.out]
  go_wp2_with fail
  go_at_call 31
  refine HCK.out.mono ?_
  rintro e w1 ⟨hq, rfl⟩
  have s1 := S0.out.trans (hq.mono S0.out.size)
  have tk := B0.out.keep hq; have x0 := tk.cell (j := 0) rfl; have x1 := tk.cell (j := 1) rfl; have x2 := tk.cell (j := 2) rfl; have C0 := Lib.hid tk; clear tk
  have S1 := Lib.hid s1; clear s1
  clear hq
  go_wp2_with fail
  go_ret
  exact ⟨S1.out, rfl⟩
/-- A set handed back. -/
def SetRet (w : World) (ys : List Int) (e : Ending) (w' : World) : Prop :=
  Below w.heap.size w w' ∧ ∃ v, e = .returned v ∧ Row w' v ys.length (ci ys)
set_option maxRecDepth 100000 in
set_option maxHeartbeats 3200000 in
theorem lstep_any (L S : Int) (es : List E3) (v vs : Value) (set : List Int) (c : UInt8) (w : World) (hr : Row w v es.length (ce es)) (hrs : Row w vs set.length (ci set)) (hok : okEs es) (hc : chk L S es = 0) (hset : IsSet S set) (hl : 0 ≤ lbL c ∧ lbL c < L) :
    Calls Tryz.prog 101 #[.agg #[.int .i64 L, .int .i64 S, v], vs, .int .u8 (c.toNat : Int)] w (SetRet w (stepR es (lbL c) set)) := by
  obtain ⟨va, vc, rfl, hle⟩ := hr.slice
  obtain ⟨sa, sc, rfl, hsle⟩ := hrs.slice
  have s0 := (Below.refl w.heap.size w).alloc (Nat.le_refl _) (.cells #[.int .i64 L, .int .i64 S, .slice va es.length vc] 24)
  have b0 := Blk.new w 24 [.int .i64 L, .int .i64 S, .slice va es.length vc]
  have hr0 := hr.below s0 (Nat.le_refl _)
  have hrs0 := hrs.below s0 (Nat.le_refl _)
  have hst := fun w' h h2 => gstep_any L S (lbL c) es (.slice va es.length vc) (.slice sa set.length sc) set w' h h2 hok hc hset hl
  have hc8 : ((c.toNat : Int).toNat.toUInt8) = c := by simp
  have hix : Lib.indexByte lettersS.data.toList c = lbL c := rfl
  obtain ⟨q, hq⟩ : ∃ q, q = lbL c := ⟨_, rfl⟩
  rw [← hq] at hst hix
  obtain ⟨R, hR⟩ : ∃ R, R = stepR es q set := ⟨_, rfl⟩
  rw [← hq, ← hR]
  rw [← hR] at hst
  obtain ⟨mm, hmm⟩ : ∃ mm, mm = es.length := ⟨_, rfl⟩
  obtain ⟨ms, hms⟩ : ∃ ms, ms = set.length := ⟨_, rfl⟩
  rw [← hmm] at s0 b0 hr0 hrs0 hst
  rw [← hms] at hrs0 hst
  have HMM := Lib.hid hmm; clear hmm
  have HMS := Lib.hid hms; clear hms
  have HST := Lib.hid hst; clear hst
  have HR := Lib.hid hr0; clear hr0
  have HRS := Lib.hid hrs0; clear hrs0
  have S0 := Lib.hid s0; clear s0
  have B0 := Lib.hid b0; clear b0
  clear hr hrs hok hc hset hl hR hq
  go_enter Tryz.func101, Tryz.ntmps101
  rw [← HMM.out, ← HMS.out]
  go_wp2_with fail
  obtain ⟨wg, hwg⟩ : ∃ wg, w.alloc (.cells #[.int .i64 L, .int .i64 S, .slice va mm vc] 24) = wg := ⟨_, rfl⟩
  rw [hwg] at S0 B0 HR HRS ⊢
  clear hwg
  have hwl : w.heap.size < wg.heap.size := B0.out.lt
  have x0 := B0.out.cell (j := 0) rfl
  have x1 := B0.out.cell (j := 1) rfl
  have x2 := B0.out.cell (j := 2) rfl
  refine wp_region_held_drew (S := fun w' => w'.cell? ⟨w.heap.size, 0, none⟩ = some (.int .i64 L) ∧ w'.cell? ⟨w.heap.size, 1, none⟩ = some (.int .i64 S) ∧ w'.cell? ⟨w.heap.size, 2, none⟩ = some (.slice va mm vc)) (by kernel_rfl) ?_ (fun hHeld => ?_)
  · go_keep
  refine wpAnyH_take (i := 0) (v := ?_) rfl (by kernel_rfl) (by kernel_rfl) (by kernel_rfl) (fun _ _ _ h => h) (Or.inl ⟨by kernel_rfl, ?_⟩) (by assumption) ?_
  rotate_left
  · (intro wS hSw; (try dsimp only at hSw); go_simp; (try with_reducible rfl))
  (try simp only [Act.put, List.setIfInBounds_toArray, List.set_cons_zero, List.set_cons_succ])
  refine wpAnyH_take (i := 1) (v := ?_) rfl (by kernel_rfl) (by kernel_rfl) (by kernel_rfl) (fun _ _ _ h => h) (Or.inl ⟨by kernel_rfl, ?_⟩) (by assumption) ?_
  rotate_left
  · (intro wS hSw; (try dsimp only at hSw); go_simp; (try with_reducible rfl))
  (try simp only [Act.put, List.setIfInBounds_toArray, List.set_cons_zero, List.set_cons_succ])
  refine wpAnyH_take (i := 2) (v := ?_) rfl (by kernel_rfl) (by kernel_rfl) (by kernel_rfl) (fun _ _ _ h => h) (Or.inl ⟨by kernel_rfl, ?_⟩) (by assumption) ?_
  rotate_left
  · (intro wS hSw; (try dsimp only at hSw); go_simp; (try with_reducible rfl))
  (try simp only [Act.put, List.setIfInBounds_toArray, List.set_cons_zero, List.set_cons_succ])
  refine wpAnyH_ready (rs := [3]) (by kernel_rfl) (by simp) ?_
  refine AllReadyH.cons rfl (fun K hK => ?_) AllReadyH.nil
  go_simp
  go_at_call 121
  refine (Tryz.strings_IndexByte _ _ _).mono ?_
  rintro e w3 ⟨rfl, rfl⟩
  rw [hc8, hix]
  (try dsimp only)
  refine hK.out _ _ hHeld (fun hHeld2 => ?_)
  clear hK K
  (try simp only [Act.put, List.setIfInBounds_toArray, List.set_cons_zero, List.set_cons_succ])
  refine wpAnyH_ready (rs := [4]) (by kernel_rfl) (by simp) ?_
  refine AllReadyH.cons rfl (fun K hK => ?_) AllReadyH.nil
  go_simp
  go_at_call 120
  refine (HST.out _ HR.out.drew HRS.out.drew).mono ?_
  rintro e w4 ⟨hq, vn, rfl, hrn⟩
  dsimp only
  have z0 := (hq.cell (p := ⟨w.heap.size, 0, none⟩) (show w.heap.size < wg.heap.size by omega)).trans hHeld.1
  have z1 := (hq.cell (p := ⟨w.heap.size, 1, none⟩) (show w.heap.size < wg.heap.size by omega)).trans hHeld.2.1
  have z2 := (hq.cell (p := ⟨w.heap.size, 2, none⟩) (show w.heap.size < wg.heap.size by omega)).trans hHeld.2.2
  refine hK.out _ _ ⟨z0, z1, z2⟩ (fun hHeld3 => ?_)
  clear hK K
  (try simp only [Act.put, List.setIfInBounds_toArray, List.set_cons_zero, List.set_cons_succ])
  have s4 := S0.out.drew.trans (hq.mono S0.out.size)
  obtain ⟨na, nc, rfl, hnle⟩ := hrn.slice
  have S4 := Lib.hid s4; clear s4
  have HRN := Lib.hid hrn; clear hrn
  clear hq z0 z1 z2
  refine wpAnyH_take (i := 5) (v := ?_) rfl (by kernel_rfl) (by kernel_rfl) (by kernel_rfl) (fun _ _ _ h => h) (Or.inl ⟨by kernel_rfl, ?_⟩) (by assumption) ?_
  rotate_left
  · (intro wS hSw; (try dsimp only at hSw); go_simp; (try with_reducible rfl))
  (try simp only [Act.put, List.setIfInBounds_toArray, List.set_cons_zero, List.set_cons_succ])
  refine wpAnyH_take (i := 6) (v := ?_) rfl (by kernel_rfl) (by kernel_rfl) (by kernel_rfl) (fun _ _ _ h => h) (Or.inl ⟨by kernel_rfl, ?_⟩) (by assumption) ?_
  rotate_left
  · (intro wS hSw; (try dsimp only at hSw); go_simp; (try with_reducible rfl))
  (try simp only [Act.put, List.setIfInBounds_toArray, List.set_cons_zero, List.set_cons_succ])
  refine wpAnyH_take (i := 7) (v := ?_) rfl (by kernel_rfl) (by kernel_rfl) (by kernel_rfl) (fun _ _ _ h => h) (Or.inl ⟨by kernel_rfl, ?_⟩) (by assumption) ?_
  rotate_left
  · (intro wS hSw; (try dsimp only at hSw); go_simp; (try with_reducible rfl))
  (try simp only [Act.put, List.setIfInBounds_toArray, List.set_cons_zero, List.set_cons_succ])
  refine wpAnyH_take (i := 8) (v := ?_) rfl (by kernel_rfl) (by kernel_rfl) (by kernel_rfl) (fun _ _ _ h => h) (Or.inl ⟨by kernel_rfl, ?_⟩) (by assumption) ?_
  rotate_left
  · (intro wS hSw; (try dsimp only at hSw); go_simp; (try with_reducible rfl))
  (try simp only [Act.put, List.setIfInBounds_toArray, List.set_cons_zero, List.set_cons_succ])
  refine wpAnyH_take (i := 9) (v := ?_) rfl (by kernel_rfl) (by kernel_rfl) (by kernel_rfl) (fun _ _ _ h => h) (Or.inl ⟨by kernel_rfl, ?_⟩) (by assumption) ?_
  rotate_left
  · (intro wS hSw; (try dsimp only at hSw); go_simp; (try with_reducible rfl))
  (try simp only [Act.put, List.setIfInBounds_toArray, List.set_cons_zero, List.set_cons_succ])
  refine wpAnyH_done (by kernel_rfl) ?_ _
  (try simp only [List.getElem_toArray, List.getElem_cons_zero, List.getElem_cons_succ, Act.put, List.setIfInBounds_toArray, List.set_cons_zero, List.set_cons_succ])
  clear hHeld hHeld2 hHeld3
  go_wp2_with fail
  go_ret
  exact ⟨S4.out, _, rfl, HRN.out⟩
end Go.Proofs.YthpgeeaccmgbkaaGreat

/- Maps whose keys are words, each with the set behind it: what language.list fills; plain. -/
namespace Go.Proofs.YthpgeeaccmgbkaaGreat
open Go.RowKit Go.Maps

/-- A map's element as its own header. -/
def hdR : Value → Option (DataW Value × List MemPlace)
  | .slice a m c => some (.held (.slice a m c), [])
  | _ => none
/-- l is a word of k letters that leads from the set somewhere. -/
def isW (L : Int) (es : List E3) (set : List Int) (k : Nat) (l : List UInt8) : Bool :=
  decide (l.length = k) && l.all (isLetter L.toNat) && !(efold es l set).isEmpty
/-- D holds exactly the words that p tells, each with a row of its ends. -/
def WRep (es : List E3) (set : List Int) (w : World) (D : DataW Value) (p : List UInt8 → Bool) : Prop :=
  (∀ l, Maps.has D (.string l) = p l) ∧ ∀ l, p l = true → ∃ v, (∀ z, D.atKey (.string l) z = .held v) ∧ Row w v (efold es l set).length (ci (efold es l set))

theorem wrep_nil (es : List E3) (set : List Int) (w : World) : WRep es set w (.map []) (fun _ => false) :=
  ⟨fun _ => rfl, fun _ h => by cases h⟩
theorem WRep.congr {es : List E3} {set : List Int} {w : World} {D : DataW Value} {p q : List UInt8 → Bool} (h : WRep es set w D p) (e : ∀ l, p l = q l) : WRep es set w D q := by
  have : p = q := funext e
  exact this ▸ h
theorem WRep.put {es : List E3} {set : List Int} {w : World} {D : DataW Value} {p : List UInt8 → Bool} (h : WRep es set w D p) (hm : IsMap D) {l0 : List UInt8} {v : Value} (hr : Row w v (efold es l0 set).length (ci (efold es l0 set))) :
    WRep es set w (D.put (.string l0) (.held v)) (fun l => p l || l == l0) := by
  refine ⟨fun l => ?_, fun l hl => ?_⟩
  · by_cases e : l = l0
    · subst e
      rw [has_put_same hm (by trivial)]; simp
    · rw [has_put_other (by simpa using e), h.1 l]
      have : (l == l0) = false := by simpa using e
      show p l = (p l || l == l0)
      rw [this, Bool.or_false]
  · by_cases e : l = l0
    · subst e
      exact ⟨v, fun z => atKey_put_same hm (by trivial) _ z, hr⟩
    · have : (l == l0) = false := by simpa using e
      replace hl : (p l || l == l0) = true := hl
      rw [this, Bool.or_false] at hl
      obtain ⟨u, h1, h2⟩ := h.2 l hl
      exact ⟨u, fun z => (atKey_put_other (by simpa using e) _ z).trans (h1 z), h2⟩
theorem WRep.frame {es : List E3} {set : List Int} {w w' : World} {D : DataW Value} {p : List UInt8 → Bool} (h : WRep es set w D p) (hf : ∀ v n xs, Row w v n xs → Row w' v n xs) : WRep es set w' D p :=
  ⟨h.1, fun l hl => by obtain ⟨v, h1, h2⟩ := h.2 l hl; exact ⟨v, h1, hf _ _ _ h2⟩⟩
/-- A row stays where a block that holds no cells turns. -/
theorem Row.grown {w w' : World} {v : Value} {n : Nat} {xs : List Value} {b : Nat} (h : Row w v n xs) (hg : w.grownBy w' (some b)) (hb : ∀ o p, w.cell? ⟨b, o, p⟩ = none) : Row w' v n xs := by
  rcases h with h | ⟨c, off, cap, hv, h1, h2, h3, h4⟩
  · exact .inl h
  · refine .inr ⟨c, off, cap, hv, h1, h2, Nat.lt_of_lt_of_le h3 hg.size, fun j u hu => ?_⟩
    have hc := h4 j u hu
    have hne : c ≠ b := fun e => by rw [e, hb] at hc; cases hc
    rw [World.cell?_of_block (w := w) (hg.block c h3 (by simpa using hne))]
    exact hc
theorem own_noCell {H : Type} {P : Program} {k : TypeId} {R : Value → Option (DataW H × List MemPlace)} {w : World} {b n : Nat} {D : DataW H} (h : w.ownsMap P k R b n D) (o : Nat) (p : Option Nat) : w.cell? ⟨b, o, p⟩ = none := by
  obtain ⟨es, clock, hb, -⟩ := h
  simp [World.cell?, hb]
theorem rng_noCell {H : Type} {P : Program} {k : TypeId} {R : Value → Option (DataW H × List MemPlace)} {w : World} {b r n cnt : Nat} {D : DataW H} {left : Lit → Bool} (h : w.ranges P k R b r n D left cnt) (o : Nat) (p : Option Nat) : w.cell? ⟨r, o, p⟩ = none := by
  obtain ⟨es, clock, since, seen, c0, -, -, -, -, hr, -⟩ := h
  simp [World.cell?, hr]
theorem _root_.Go.RowKit.Below.grow {w w' : World} (h : Below w.heap.size w w') : w.grownBy w' none := ⟨h.os, h.tape, h.output, h.size, fun i hi _ => h.block i hi⟩
theorem own_tight {H : Type} {P : Program} {k : TypeId} {R : Value → Option (DataW H × List MemPlace)} {w : World} {b n m : Nat} {D : DataW H} (h : w.ownsMap P k R b n D) (hm : Maps.size D ≤ m) : w.ownsMap P k R b m D := by
  obtain ⟨es, clock, hb, F, hs, rfl⟩ := h
  refine ⟨es, clock, hb, F, ?_, rfl⟩
  simpa [Maps.size, length_sorted] using hm
theorem rng_tight {H : Type} {P : Program} {k : TypeId} {R : Value → Option (DataW H × List MemPlace)} {w : World} {b r n m cnt : Nat} {D : DataW H} {left : Lit → Bool} (h : w.ranges P k R b r n D left cnt) (hm : Maps.size D ≤ m) : w.ranges P k R b r m D left cnt := by
  obtain ⟨es, clock, since, seen, c0, hb, F, hs, rfl, rest⟩ := h
  refine ⟨es, clock, since, seen, c0, hb, F, ?_, rfl, rest⟩
  simpa [Maps.size, length_sorted] using hm
theorem len_of_sub {α : Type} [DecidableEq α] : ∀ {l m : List α}, l.Nodup → (∀ x ∈ l, x ∈ m) → l.length ≤ m.length
  | [], _, _, _ => Nat.zero_le _
  | a :: l, m, h, hs => by
    obtain ⟨h1, h2⟩ := List.nodup_cons.1 h
    have ha := hs a (by simp)
    have := len_of_sub (m := m.erase a) h2 (fun x hx => (List.mem_erase_of_ne (fun e : x = a => h1 (by rw [← e]; exact hx))).2 (hs x (by simp [hx])))
    rw [List.length_erase_of_mem ha] at this
    have := List.length_pos_of_mem ha
    rw [List.length_cons]; omega
section
variable {H : Type} {P : Program} {k : TypeId} {R : Value → Option (DataW H × List MemPlace)} {w : World} {b n : Nat} {D : DataW H}
/-- The keys, each once; which they are. -/
theorem own_keys (h : w.ownsMap P k R b n D) (K : Keyed P k) (hk : P.underlying k = some .string) : (strKeys D).Nodup ∧ (∀ x, x ∈ strKeys D ↔ Maps.has D (.string x) = true) ∧ (strKeys D).length = Maps.size D := by
  obtain ⟨es, hD, hpw, -⟩ := h.entries K
  obtain ⟨es', hD', hko⟩ := h.keysOf
  obtain rfl : es = es' := by rw [hD] at hD'; simpa using hD'
  subst hD
  have hs : ∀ p ∈ es, ∃ x, p.1 = .string x := fun p hp => by
    obtain ⟨v, hv⟩ := hko p hp
    obtain ⟨x, -, hx, -⟩ := Maps.keyOf_str hk hv
    exact ⟨x, hx⟩
  refine ⟨?_, fun x => ?_, by simp [strKeys, Maps.size]⟩
  · show (es.map fun p => strOf p.1).Nodup
    refine List.pairwise_map.2 (hpw.imp_of_mem fun {p q} hp' hq' hne e => hne ?_)
    obtain ⟨a, ha⟩ := hs p hp'
    obtain ⟨b, hb⟩ := hs q hq'
    rw [ha, hb] at e ⊢
    exact congrArg _ e
  · rw [has_eq, List.any_eq_true]
    show x ∈ es.map (fun p => strOf p.1) ↔ _
    rw [List.mem_map]
    constructor
    · rintro ⟨p, hp', rfl⟩
      obtain ⟨a, ha⟩ := hs p hp'
      exact ⟨p, hp', by rw [ha]; simp [Lit.sameKey, strOf]⟩
    · rintro ⟨p, hp', hs'⟩
      obtain ⟨a, ha⟩ := hs p hp'
      rw [ha] at hs'
      exact ⟨p, hp', by rw [ha]; simpa [Lit.sameKey, strOf] using hs'⟩
theorem own_size (h : w.ownsMap P k R b n D) (K : Keyed P k) (hk : P.underlying k = some .string) {M : List (List UInt8)} (hM : ∀ l, Maps.has D (.string l) = true → l ∈ M) : Maps.size D ≤ M.length := by
  obtain ⟨h1, h2, h3⟩ := own_keys h K hk
  rw [← h3]
  exact len_of_sub h1 (fun x hx => hM x ((h2 x).1 hx))
end
/-- All strings of k letters. -/
def allS (q : Nat) : Nat → List (List UInt8)
  | 0 => [[]]
  | k + 1 => (allS q k).flatMap fun a => (letters.take q).map fun c => a ++ [c]
theorem allS_len (q : Nat) : ∀ k, (allS q k).length ≤ q ^ k
  | 0 => by simp [allS]
  | k + 1 => by
    have ih := allS_len q k
    have : ∀ l : List (List UInt8), (l.flatMap fun a => (letters.take q).map fun c => a ++ [c]).length ≤ l.length * q := fun l => by
      induction l with
      | nil => simp
      | cons a l ih =>
        rw [List.flatMap_cons, List.length_append, List.length_map, List.length_take, List.length_cons, Nat.succ_mul]
        omega
    rw [allS, Nat.pow_succ]
    exact Nat.le_trans (this _) (Nat.mul_le_mul_right _ ih)
theorem snoc_cases (l : List UInt8) : l = [] ∨ ∃ a c, l = a ++ [c] := by
  rcases List.eq_nil_or_concat l with h | ⟨a, c, h⟩
  · exact .inl h
  · exact .inr ⟨a, c, by simpa using h⟩
theorem allS_mem {q : Nat} : ∀ {k : Nat} {l : List UInt8}, l.length = k → l.all (isLetter q) = true → l ∈ allS q k
  | 0, l, h, _ => by simp [List.length_eq_zero_iff.1 h, allS]
  | k + 1, l, h, ha => by
    rcases snoc_cases l with rfl | ⟨a, c, rfl⟩
    · cases h
    · simp only [List.length_append, List.length_singleton, Nat.add_right_cancel_iff] at h
      simp only [List.all_append, List.all_cons, List.all_nil, Bool.and_true, Bool.and_eq_true] at ha
      rw [allS, List.mem_flatMap]
      refine ⟨a, allS_mem h ha.1, List.mem_map.2 ⟨c, ?_, rfl⟩⟩
      have := ha.2
      unfold isLetter at this
      exact List.contains_iff_mem.1 this
section
variable {L : Int} {es : List E3} {set : List Int} {k : Nat}
theorem isW_iff {l : List UInt8} : isW L es set k l = true ↔ l.length = k ∧ l.all (isLetter L.toNat) = true ∧ efold es l set ≠ [] := by
  unfold isW
  simp only [Bool.and_eq_true, decide_eq_true_eq, Bool.not_eq_true', List.isEmpty_eq_false_iff, and_assoc]
theorem isW_all {l : List UInt8} (h : isW L es set k l = true) : l ∈ allS L.toNat k := by
  have := isW_iff.1 h
  exact allS_mem this.1 this.2.1
theorem isW_snoc {a : List UInt8} {c : UInt8} : isW L es set (k + 1) (a ++ [c]) = (isW L es set k a && isLetter L.toNat c && !(stepR es (lbL c) (efold es a set)).isEmpty) := by
  rw [Bool.eq_iff_iff, Bool.and_eq_true, Bool.and_eq_true, isW_iff, isW_iff, efold_snoc]
  simp only [List.length_append, List.length_singleton, Nat.add_right_cancel_iff, List.all_append, List.all_cons, List.all_nil, Bool.and_true, Bool.and_eq_true, Bool.not_eq_true', List.isEmpty_eq_false_iff]
  constructor
  · rintro ⟨h1, ⟨h2, h3⟩, h4⟩
    exact ⟨⟨⟨h1, h2, fun e => h4 (by rw [e, stepR_none])⟩, h3⟩, h4⟩
  · rintro ⟨⟨⟨h1, h2, -⟩, h3⟩, h4⟩
    exact ⟨h1, ⟨h2, h3⟩, h4⟩
/-- The words told so far: those whose beginning is no longer to come; of x's those with a letter below i. -/
def qW (L : Int) (es : List E3) (set : List Int) (k : Nat) (left : Lit → Bool) (x : List UInt8) (i : Nat) (l : List UInt8) : Bool :=
  isW L es set (k + 1) l && !left (.string l.dropLast) && !(l.dropLast == x && decide ((i : Int) ≤ lbL (l.getLastD 0)))
/-- .. between two rounds of the range. -/
def pW (L : Int) (es : List E3) (set : List Int) (k : Nat) (left : Lit → Bool) (l : List UInt8) : Bool := isW L es set (k + 1) l && !left (.string l.dropLast)
theorem isW_nil_succ : isW L es set (k + 1) [] = false := by simp [isW]
theorem pW_start {left : Lit → Bool} (h : ∀ l, left (.string l) = isW L es set k l) (l : List UInt8) : pW L es set k left l = false := by
  unfold pW
  rcases snoc_cases l with rfl | ⟨a, c, rfl⟩
  · rw [isW_nil_succ]; rfl
  · rw [List.dropLast_concat, h a, isW_snoc]
    cases isW L es set k a <;> simp
theorem pW_end {left : Lit → Bool} (h : ∀ kl, left kl = false) (l : List UInt8) : pW L es set k left l = isW L es set (k + 1) l := by
  unfold pW; rw [h]; simp
theorem qW_start {left : Lit → Bool} {x : List UInt8} (hx : left (.string x) = true) (hL : 1 ≤ L) (hL2 : L ≤ 16) (l : List UInt8) : pW L es set k left l = qW L es set k (fun z => left z && !z.sameKey (.string x)) x 0 l := by
  unfold pW qW
  rcases snoc_cases l with rfl | ⟨a, c, rfl⟩
  · rw [isW_nil_succ]; rfl
  · simp only [List.dropLast_concat, List.getLastD_concat]
    by_cases hw : isW L es set (k + 1) (a ++ [c]) = true
    · have hl : isLetter L.toNat c = true := by
        rw [isW_snoc] at hw
        simp only [Bool.and_eq_true] at hw
        exact hw.1.2
      have h0 := (lbL_range hL hL2 hl).1
      rw [hw]
      by_cases e : a = x
      · subst e
        rw [hx]
        simp [Lit.sameKey, h0]
      · have e2 : (a == x) = false := by simpa using e
        simp [Lit.sameKey, e2]
    · rw [Bool.not_eq_true] at hw
      rw [hw]; rfl
theorem qW_end {left : Lit → Bool} {x : List UInt8} (hL : 1 ≤ L) (hL2 : L ≤ 16) (l : List UInt8) : qW L es set k left x L.toNat l = pW L es set k left l := by
  unfold pW qW
  rcases snoc_cases l with rfl | ⟨a, c, rfl⟩
  · rw [isW_nil_succ]; rfl
  · simp only [List.dropLast_concat, List.getLastD_concat]
    by_cases hw : isW L es set (k + 1) (a ++ [c]) = true
    · have hl : isLetter L.toNat c = true := by
        rw [isW_snoc] at hw
        simp only [Bool.and_eq_true] at hw
        exact hw.1.2
      have h0 := (lbL_range hL hL2 hl).2
      have : decide (((L.toNat : Nat) : Int) ≤ lbL c) = false := decide_eq_false (by omega)
      rw [this, Bool.and_false, Bool.not_false, Bool.and_true]
    · rw [Bool.not_eq_true] at hw
      rw [hw]; rfl
theorem lbL_inj {c d : UInt8} (hL : 1 ≤ L) (hL2 : L ≤ 16) (hc : isLetter L.toNat c = true) (hd : isLetter L.toNat d = true) (h : lbL c = lbL d) : c = d := by
  have key : ∀ {c : UInt8}, isLetter L.toNat c = true → c = letters.getD (lbL c).toNat 0 := fun {c} hc => by
    unfold isLetter at hc
    rw [List.contains_iff_mem] at hc
    obtain ⟨i, hi, rfl⟩ := List.mem_iff_getElem.1 hc
    have h16 : letters.length = 16 := rfl
    rw [List.length_take, h16] at hi
    have h2 := lbL_get ⟨i, by omega⟩
    have e1 : (letters.take L.toNat)[i]'(by rw [List.length_take, h16]; exact hi) = letters.getD i 0 := by
      rw [List.getElem_take, List.getD_eq_getElem?_getD, List.getElem?_eq_getElem (by omega)]
      rfl
    rw [e1]
    dsimp only at h2
    rw [h2]
    rfl
  rw [key hc, key hd, h]
theorem let_isLetter {i : Nat} (hi : (i : Int) < L) (hL2 : L ≤ 16) : isLetter L.toNat (letters.getD i 0) = true := by
  unfold isLetter
  rw [List.contains_iff_mem]
  have h16 : letters.length = 16 := rfl
  refine List.mem_iff_getElem.2 ⟨i, by rw [List.length_take, h16]; omega, ?_⟩
  rw [List.getElem_take, List.getD_eq_getElem?_getD, List.getElem?_eq_getElem (by omega)]
  rfl
/-- One letter on. -/
theorem qW_step {left : Lit → Bool} {x : List UInt8} {i : Nat} (hx : left (.string x) = false) (hw : isW L es set k x = true) (hL : 1 ≤ L) (hL2 : L ≤ 16) (hi : (i : Int) < L) (l : List UInt8) :
    qW L es set k left x (i + 1) l = (qW L es set k left x i l || (!(stepR es (i : Int) (efold es x set)).isEmpty && l == x ++ [letters.getD i 0])) := by
  have hli := let_isLetter hi hL2
  have hlb : lbL (letters.getD i 0) = (i : Int) := lbL_get ⟨i, by omega⟩
  unfold qW
  rcases snoc_cases l with rfl | ⟨a, c, rfl⟩
  · rw [isW_nil_succ]
    have : (([] : List UInt8) == x ++ [letters.getD i 0]) = false := by simp
    rw [this]; simp
  · simp only [List.dropLast_concat, List.getLastD_concat]
    by_cases e : a = x
    · subst e
      rw [hx]
      by_cases hl : isLetter L.toNat c = true
      · by_cases hci : c = letters.getD i 0
        · subst hci
          rw [isW_snoc, hw, hli, hlb]
          have d1 : decide (((i + 1 : Nat) : Int) ≤ (i : Int)) = false := decide_eq_false (by omega)
          have d2 : decide ((i : Int) ≤ (i : Int)) = true := decide_eq_true (Int.le_refl _)
          rw [d1, d2]
          simp
        · have hne : lbL c ≠ (i : Int) := fun e => hci (lbL_inj hL hL2 hl hli (e.trans hlb.symm))
          have d1 : decide (((i + 1 : Nat) : Int) ≤ lbL c) = decide ((i : Int) ≤ lbL c) := by
            rw [decide_eq_decide]; omega
          have d2 : ((a ++ [c]) == a ++ [letters.getD i 0]) = false := by simpa using hci
          rw [d1, d2]; simp
      · rw [Bool.not_eq_true] at hl
        rw [isW_snoc, hl]
        have d2 : ((a ++ [c]) == a ++ [letters.getD i 0]) = false := by
          have : c ≠ letters.getD i 0 := fun e => by rw [e, hli] at hl; cases hl
          simpa using this
        rw [d2]; simp
    · have d2 : ((a ++ [c]) == x ++ [letters.getD i 0]) = false := by
        have : ¬ (a ++ [c] = x ++ [letters.getD i 0]) := fun h => e (List.append_inj_left' h rfl)
        simpa using this
      have d3 : (a == x) = false := by simpa using e
      rw [d2, d3]; simp
theorem isW_zero (hs : set ≠ []) (l : List UInt8) : isW L es set 0 l = (l == []) := by
  cases l with
  | nil => cases set with
    | nil => exact absurd rfl hs
    | cons a t => rfl
  | cons a t => rfl
theorem isW_none (l : List UInt8) : isW L es ([] : List Int) k l = false := by
  unfold isW; rw [efold_none]; simp
end
end Go.Proofs.YthpgeeaccmgbkaaGreat

/- Words and paths, plain: there are no more words than paths; in a deterministic graph as many. -/
namespace Go.Proofs.YthpgeeaccmgbkaaGreat
open Go.RowKit

def lbC (l : Int) : UInt8 := letters.getD l.toNat 0
theorem lbL_lbC {l : Int} (h0 : 0 ≤ l) (h1 : l < 16) : lbL (lbC l) = l := by
  have h := lbL_get ⟨l.toNat, by omega⟩
  unfold lbC
  rw [h]
  show ((l.toNat : Nat) : Int) = l
  omega
theorem lbC_all : ∀ i : Fin 256, 0 ≤ lbL (UInt8.ofNat i.val) → lbC (lbL (UInt8.ofNat i.val)) = UInt8.ofNat i.val := by decide +kernel
theorem lbC_lbL {c : UInt8} (h : 0 ≤ lbL c) : lbC (lbL c) = c := by
  have h2 := lbC_all ⟨c.toNat, c.toNat_lt⟩
  dsimp only at h2
  rw [show UInt8.ofNat c.toNat = c by simp] at h2
  exact h2 h
/-- The labels of all paths. -/
def labs (es : List E3) : Nat → Int → List (List UInt8)
  | 0, _ => [[]]
  | n + 1, s => (es.filter fun e => e.f == s).flatMap fun e => (labs es n e.t).map fun x => lbC e.l :: x
theorem labs_length (es : List E3) : ∀ (n : Nat) (s : Int), ((labs es n s).length : Int) = cw es allP n s
  | 0, s => by rw [cw]; rfl
  | n + 1, s => by
    rw [labs, cw]
    generalize (es.filter fun e => e.f == s) = l
    induction l with
    | nil => rfl
    | cons e l ih =>
      rw [List.flatMap_cons, List.length_append, List.length_map, List.map_cons, List.sum_cons, Int.natCast_add, ih, labs_length es n e.t]
/-- A fold that leaves something begins somewhere. -/
theorem efold_ne {es : List E3} : ∀ (l : List UInt8) (set : List Int), efold es l set ≠ [] ↔ ∃ y ∈ set, efold es l [y] ≠ []
  | [], set => by
    rw [efold]
    constructor
    · intro h
      obtain ⟨y, hy⟩ := List.exists_mem_of_ne_nil _ h
      exact ⟨y, hy, by rw [efold]; simp⟩
    · rintro ⟨y, hy, -⟩ h
      rw [h] at hy; cases hy
  | c :: t, set => by
    rw [efold, efold_ne t]
    constructor
    · rintro ⟨y, hy, h⟩
      obtain ⟨e, he, hf, hl, ht⟩ := mem_stepR.1 hy
      refine ⟨e.f, hf, ?_⟩
      rw [efold, efold_ne t]
      exact ⟨y, mem_stepR.2 ⟨e, he, by simp, hl, ht⟩, h⟩
    · rintro ⟨y, hy, h⟩
      rw [efold, efold_ne t] at h
      obtain ⟨z, hz, h2⟩ := h
      obtain ⟨e, he, hf, hl, ht⟩ := mem_stepR.1 hz
      have : e.f = y := by simpa using hf
      exact ⟨z, mem_stepR.2 ⟨e, he, by rw [this]; exact hy, hl, ht⟩, h2⟩
theorem labs_mem {es : List E3} (hes : ∀ e ∈ es, 0 ≤ e.l ∧ e.l < 16) : ∀ (n : Nat) (s : Int) (x : List UInt8), x ∈ labs es n s ↔ x.length = n ∧ efold es x [s] ≠ []
  | 0, s, x => by
    rw [labs, List.mem_singleton]
    constructor
    · rintro rfl; exact ⟨rfl, by rw [efold]; simp⟩
    · rintro ⟨h, -⟩; exact List.length_eq_zero_iff.1 h
  | n + 1, s, x => by
    rw [labs, List.mem_flatMap]
    constructor
    · rintro ⟨e, he, hx⟩
      obtain ⟨y, hy, rfl⟩ := List.mem_map.1 hx
      obtain ⟨he1, he2⟩ := List.mem_filter.1 he
      obtain ⟨h1, h2⟩ := (labs_mem hes n e.t y).1 hy
      obtain ⟨hl0, hl1⟩ := hes e he1
      refine ⟨by rw [List.length_cons, h1], ?_⟩
      rw [efold, lbL_lbC hl0 hl1, efold_ne]
      have hf : e.f = s := by simpa using he2
      exact ⟨e.t, mem_stepR.2 ⟨e, he1, by rw [hf]; simp, rfl, rfl⟩, h2⟩
    · rintro ⟨h1, h2⟩
      rcases x with _ | ⟨c, t⟩
      · cases h1
      · rw [efold, efold_ne] at h2
        obtain ⟨y, hy, h3⟩ := h2
        obtain ⟨e, he, hf, hl, ht⟩ := mem_stepR.1 hy
        obtain ⟨hl0, hl1⟩ := hes e he
        refine ⟨e, List.mem_filter.2 ⟨he, by simpa using hf⟩, List.mem_map.2 ⟨t, (labs_mem hes n e.t t).2 ⟨by simpa using h1, by rw [ht]; exact h3⟩, ?_⟩⟩
        rw [hl, lbC_lbL (by omega)]
theorem labs_letters {L : Int} {es : List E3} (hes : ∀ e ∈ es, 0 ≤ e.l ∧ e.l < L) (hL : L ≤ 16) : ∀ (n : Nat) (s : Int) (x : List UInt8), x ∈ labs es n s → x.all (isLetter L.toNat) = true
  | 0, s, x, h => by
    rw [labs, List.mem_singleton] at h
    subst h; rfl
  | n + 1, s, x, h => by
    rw [labs, List.mem_flatMap] at h
    obtain ⟨e, he, hx⟩ := h
    obtain ⟨y, hy, rfl⟩ := List.mem_map.1 hx
    obtain ⟨hl0, hl1⟩ := hes e (List.mem_filter.1 he).1
    rw [List.all_cons, labs_letters hes hL n e.t y hy, Bool.and_true]
    unfold lbC
    exact let_isLetter (by omega) hL
theorem labs_nodup {es : List E3} (hes : ∀ e ∈ es, 0 ≤ e.l ∧ e.l < 16) (hd : es.Pairwise ltFL) : ∀ (n : Nat) (s : Int), (labs es n s).Nodup
  | 0, s => by rw [labs]; simp
  | n + 1, s => by
    rw [labs]
    unfold List.Nodup
    rw [List.pairwise_flatMap]
    refine ⟨fun e _ => ?_, ?_⟩
    · rw [List.pairwise_map]
      exact (labs_nodup hes hd n e.t).imp fun h h2 => h (List.cons.inj h2).2
    · have hf : (es.filter fun e => e.f == s).Pairwise ltFL := hd.filter _
      refine List.Pairwise.imp_of_mem (fun {a b} ha hb h x hx y hy => ?_) hf
      obtain ⟨x', -, rfl⟩ := List.mem_map.1 hx
      obtain ⟨y', -, rfl⟩ := List.mem_map.1 hy
      obtain ⟨ha1, ha2⟩ := List.mem_filter.1 ha
      obtain ⟨hb1, hb2⟩ := List.mem_filter.1 hb
      have hfa : a.f = s := by simpa using ha2
      have hfb : b.f = s := by simpa using hb2
      intro h2
      have h3 := (List.cons.inj h2).1
      have h4 := congrArg lbL h3
      rw [lbL_lbC (hes a ha1).1 (hes a ha1).2, lbL_lbC (hes b hb1).1 (hes b hb1).2] at h4
      unfold ltFL at h
      omega
theorem nodup_le {α : Type} [DecidableEq α] : ∀ {l m : List α}, l.Nodup → (∀ x ∈ l, x ∈ m) → l.length ≤ m.length
  | [], _, _, _ => Nat.zero_le _
  | x :: l, m, h, hs => by
    rw [List.nodup_cons] at h
    have h1 := nodup_le (m := m.erase x) h.2 (fun y hy => by
      have hne : y ≠ x := fun e => h.1 (by rw [← e]; exact hy)
      exact (List.mem_erase_of_ne hne).2 (hs y (by simp [hy])))
    have h2 := List.length_erase_of_mem (hs x (by simp))
    have h3 : 0 < m.length := List.length_pos_of_mem (hs x (by simp))
    rw [List.length_cons]
    omega
/-- No more words than paths; in a deterministic graph as many. -/
theorem words_paths {L S : Int} {es : List E3} (hc : chk L S es = 0) (hL : L ≤ 16) {n : Nat} {s : Int} {ss : List (List UInt8)} (hn : ss.Nodup) (hm : ∀ x, x ∈ ss ↔ isW L es [s] n x = true) :
    (ss.length : Int) ≤ cw es allP n s ∧ (detB es = true → (ss.length : Int) = cw es allP n s) := by
  have hb : ∀ e ∈ es, 0 ≤ e.l ∧ e.l < L := fun e he => by
    have := (chk_all hc).2.2.2.2 e he
    unfold edgeBad at this
    omega
  have hb16 : ∀ e ∈ es, 0 ≤ e.l ∧ e.l < 16 := fun e he => by have := hb e he; omega
  have h1 : ss.length ≤ (labs es n s).length := nodup_le hn fun x hx => by
    have h := isW_iff.1 ((hm x).1 hx)
    exact (labs_mem hb16 n s x).2 ⟨h.1, h.2.2⟩
  have hl := labs_length es n s
  refine ⟨by omega, fun hd => ?_⟩
  have h2 : (labs es n s).length ≤ ss.length := nodup_le (labs_nodup hb16 (det_pair hc hd) n s) fun x hx => by
    have h := (labs_mem hb16 n s x).1 hx
    exact (hm x).2 (isW_iff.2 ⟨h.1, labs_letters hb hL n s x hx, h.2⟩)
  omega
end Go.Proofs.YthpgeeaccmgbkaaGreat

