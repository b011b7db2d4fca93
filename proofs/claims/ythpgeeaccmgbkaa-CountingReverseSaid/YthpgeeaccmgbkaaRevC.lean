/- Contracts and plain laws of several functions, one after the other: Compact, Sort, Make, MakeN, GRevM. -/
import Derived.Test.YthpgeeaccmgbkaaRevA
import Derived.Test.YthpgeeaccmgbkaaSortLay
import Derived.Test.YthpgeeaccmgbkaaCmp
import Derived.Test.YthpgeeaccmgbkaaShelf
import Derived.Test.YthpgeeaccmgbkaaPart4
/- The contract of slices.Compact at edges without equal neighbours: it returns its argument; nothing that was there is changed. -/
namespace Go.Proofs.Ythpgeeaccmgbkaa
open Go.RowKit

/-- No two neighbours are equal. -/
def NoTwins (es : List E3) : Prop := ∀ k x y, es[k]? = some x → es[k + 1]? = some y → x ≠ y

set_option maxRecDepth 100000 in
set_option maxHeartbeats 1600000 in
theorem compactEdges_any (es : List E3) (v : Value) (w : World) (hr : Row w v es.length (ce es)) (hno : NoTwins es) :
    Calls Try.prog 79 #[v] w (Ret w v) := by
  obtain ⟨a, c, rfl, hle⟩ := hr.slice
  have HR := Lib.hid hr; clear hr
  have HNO := Lib.hid hno; clear hno
  obtain ⟨n, hn⟩ : ∃ n, n = es.length := ⟨_, rfl⟩
  rw [← hn] at HR hle ⊢
  have HN := Lib.hid hn; clear hn
  by_cases h2 : n < 2
  · go_enter Try.func79, Try.ntmps79
    go_wp2_with fail
    go_ret
    exact ⟨Below.refl _ _, rfl⟩
  · obtain ⟨b, off, rfl, hb, hc⟩ := HR.out.at_ (by omega)
    have HC := Lib.hid hc; clear hc
    go_enter Try.func79, Try.ntmps79
    go_wp2_with fail
    go_loopw [3] (fun i wr => ∃ k : Nat, 1 ≤ k ∧ k ≤ n ∧ i = .int .i64 k ∧ Below w.heap.size w wr) (fun i _ => n - (intOf i).toNat)
    case atStart => exact ⟨1, Nat.le_refl _, by omega, rfl, Below.refl _ _⟩
    case round =>
      obtain ⟨k, hk1, hk, rfl, hbel⟩ := hrel
      have HB := Lib.hid hbel; clear hbel
      by_cases hlt : k < n
      · have g1 : es[k]? = some (es[k]'(by rw [← HN.out]; exact hlt)) := List.getElem?_eq_getElem _
        obtain ⟨x, hx⟩ : ∃ x, x = es[k]'(by rw [← HN.out]; exact hlt) := ⟨_, rfl⟩
        rw [← hx] at g1; clear hx
        have hl2 : k - 1 < es.length := by rw [← HN.out]; omega
        have g2 : es[k - 1]? = some (es[k - 1]'hl2) := List.getElem?_eq_getElem _
        obtain ⟨y, hy⟩ : ∃ y, y = es[k - 1]'hl2 := ⟨_, rfl⟩
        rw [← hy] at g2; clear hy hl2
        have hxy : ¬ x = y := fun e => HNO.out (k - 1) y x g2 (by rw [Nat.sub_add_cancel hk1]; exact g1) e.symm
        obtain ⟨p0, p1, p2⟩ := edge_cells HC.out HB.out hb g1
        obtain ⟨q0, q1, q2⟩ := edge_cells HC.out HB.out hb g2
        have heq := eql_edge x y
        have hd : (decide (x = y)) = false := by simp [hxy]
        rw [hd] at heq
        clear hd g1 g2
        have HXY := Lib.hid hxy; clear hxy
        go_wp2_with fail
        have hw2 : (0 : Int) ≤ (k : Int) - 1 := by omega
        have hw2' : (1 : Int) ≤ (k : Int) := by omega
        have hw4 : (k : Int) - 1 < n := by omega
        have hw1 : IntKind.i64.wrap ((k : Int) - 1) = (k : Int) - 1 := IntWalk.i64_in _ (by omega)
        have hw3 : ((k : Int) - 1).toNat = k - 1 := by omega
        go_quiet (fail)
        clear hw1 hw3
        go_wp2_with fail
        go_roundw
        case rel => exact ⟨k + 1, by omega, by omega, by go_num, below_drewN HB.out _⟩
        case measure => simp [intOf]; omega
      · go_wp2_with fail
        go_ret
        exact ⟨HB.out, rfl⟩
end Go.Proofs.Ythpgeeaccmgbkaa

/- The contract of slices.SortFunc at edges with the closure of graph.by. -/
namespace Go.Proofs.Ythpgeeaccmgbkaa
open Go.RowKit Go.Sort

theorem cmpE_lt (a b : E3) : cmpE a b < 0 ↔ a.f < b.f ∨ (a.f = b.f ∧ (a.l < b.l ∨ (a.l = b.l ∧ a.t < b.t))) := by
  have h : ∀ x y : Int, (cmpI x y = 0 ↔ x = y) ∧ (cmpI x y < 0 ↔ x < y) := by
    intro x y
    unfold cmpI
    by_cases h1 : x < y
    · simp [h1]; omega
    · by_cases h2 : y < x
      · simp [h1, h2]; omega
      · simp [h1, h2]; omega
  have e : cmpE a b = if cmpI a.f b.f = 0 then (if cmpI a.l b.l = 0 then (if cmpI a.t b.t = 0 then 0 else cmpI a.t b.t) else cmpI a.l b.l) else cmpI a.f b.f := rfl
  rw [e]
  by_cases h1 : cmpI a.f b.f = 0
  · rw [if_pos h1]
    have h1' := (h _ _).1.1 h1
    by_cases h2 : cmpI a.l b.l = 0
    · rw [if_pos h2]
      have h2' := (h _ _).1.1 h2
      by_cases h3 : cmpI a.t b.t = 0
      · rw [if_pos h3]
        have h3' := (h _ _).1.1 h3
        omega
      · rw [if_neg h3, (h _ _).2]; omega
    · rw [if_neg h2, (h _ _).2]
      have := mt (h a.l b.l).1.2 h2
      omega
  · rw [if_neg h1, (h _ _).2]
    have := mt (h a.f b.f).1.2 h1
    omega

abbrev EK := { e : E3 // e.ok }
instance : Inhabited EK := ⟨⟨⟨0, 0, 0⟩, by unfold E3.ok Ints; simp⟩⟩
def encE (e : EK) : List Value := e.1.cells
def cfE (a b : EK) : Int := cmpE a.1 b.1
theorem ltE (a b : EK) : ltOf cfE a b = decide (a.1.f < b.1.f ∨ (a.1.f = b.1.f ∧ (a.1.l < b.1.l ∨ (a.1.l = b.1.l ∧ a.1.t < b.1.t)))) := by
  unfold ltOf cfE
  exact decide_eq_decide.2 (cmpE_lt _ _)
theorem swoE : SWO (ltOf cfE) where
  irrefl x := by rw [ltE]; simp
  trans x y z h1 h2 := by rw [ltE] at *; simp only [decide_eq_true_eq] at *; omega
  ntrans x y z h1 h2 := by rw [ltE] at *; simp only [decide_eq_false_iff_not] at *; omega
theorem totE (x y : EK) (h1 : ltOf cfE x y = false) (h2 : ltOf cfE y x = false) : x = y := by
  rw [ltE] at h1 h2
  simp only [decide_eq_false_iff_not] at h1 h2
  apply Subtype.ext
  obtain ⟨⟨a, b, c⟩, _⟩ := x
  obtain ⟨⟨a', b', c'⟩, _⟩ := y
  simp only [E3.mk.injEq] at *
  omega
/-- Edges in their order. -/
def leE (a b : E3) : Bool := !decide (cmpE b a < 0)
def sortE (l : List E3) : List E3 := l.mergeSort leE
theorem sortE_length (l : List E3) : (sortE l).length = l.length := by simp [sortE]

theorem ce_at (l : List E3) (t : Nat) (h : t < l.length * 3) : (ce l)[t]! = (E3.cells l[t / 3]!)[t % 3]! := by
  have h1 : t / 3 < l.length := by omega
  have h2 : t % 3 < (E3.cells l[t / 3]!).length := by simp [E3.cells]; omega
  have e := ce_get (l := l) (k := t / 3) (j := t % 3) (e := l[t / 3]!) (u := (E3.cells l[t / 3]!)[t % 3]!) (by rw [getElem!_pos l _ h1]; exact List.getElem?_eq_getElem h1) (by rw [getElem!_pos (E3.cells l[t / 3]!) (t % 3) h2]; exact List.getElem?_eq_getElem h2)
  rw [show t / 3 * 3 + t % 3 = t by omega] at e
  rw [List.getElem!_eq_getElem?_getD, e]; rfl

theorem flat_ce (d : Array EK) : (flatK encE 3 d).toList = ce (d.toList.map Subtype.val) := by
  apply List.ext_getElem
  · simp [ce_length]
  · intro t h1 h2
    have h3 : t < d.size * 3 := by simpa using h1
    have h4 : t < (d.toList.map Subtype.val).length * 3 := by simpa using h3
    have e1 := get_flatK encE 3 d t h3
    have e2 := ce_at (d.toList.map Subtype.val) t h4
    rw [getElem!_pos _ t (by simpa using h3)] at e1
    rw [getElem!_pos _ t h2] at e2
    rw [Array.getElem_toList, e1, e2]
    have h5 : t / 3 < d.size := by omega
    rw [getElem!_pos d _ h5, getElem!_pos (d.toList.map Subtype.val) _ (by simpa using h5)]
    simp [encE]

/-- The slice of edges that the sort leaves. -/
def SortRet (w : World) (base g cap : Nat) (es : List E3) (e : Ending) (w' : World) : Prop :=
  e = .returned (.tuple #[]) ∧ w.grownBy w' (some g) ∧ w'.ownsRow base 48 3 (.slice (some ⟨g, 0, none⟩) es.length cap) es.length (ce (sortE es))

theorem heap_sortedE {w : World} {g n : Nat} {os : Array Obj} {cur : Array Value} {e : TypeId} {fr : Nat × Nat} (F : Array Value) (hb : w.heap[g]? = some (.cells cur e fr)) :
    (grow (putRow id (Sort.ahead w n) g 0 F) os).heap[g]? = some (.cells (putCells id 0 F cur) e fr) := by
  have hg : g < w.heap.size := (Array.getElem?_eq_some_iff.1 hb).1
  rw [heap_grow_old _ _ (by simpa using hg)]
  simp [putRow, mapBlock, Sort.ahead, Array.getElem?_modify, hb, onCells]
theorem grownBy_sortedE {w : World} {g n : Nat} {os : Array Obj} (F : Array Value) : w.grownBy (grow (putRow id (Sort.ahead w n) g 0 F) os) (some g) := by
  refine ⟨rfl, rfl, rfl, by simp, fun k hk hne => ?_⟩
  rw [heap_grow_old _ _ (by simpa using hk)]
  have : g ≠ k := fun e => hne (by rw [e])
  simp [putRow, mapBlock, Sort.ahead, Array.getElem?_modify, this]
theorem take_putE (cur F : Array Value) (h : F.size ≤ cur.size) : (putCells id 0 F cur).toList.take F.size = F.toList := by
  apply List.ext_getElem?
  intro j
  by_cases hj : j < F.size
  · rw [List.getElem?_take_of_lt hj, Array.getElem?_toList]
    simp [putCells, hj, show j < cur.size by omega]
  · rw [List.getElem?_take_eq_none (by omega), List.getElem?_eq_none (by simp; omega)]

theorem lenters (w : World) (args : Array Value) : (callFunc 83 args).run Try.prog w = .ok (.enter 83 args) w := enters_of Try.func83 (by kernel_rfl) rfl args w

theorem sort_any (es : List E3) (base g cap c : Nat) (w : World) (hown : w.ownsRow base 48 3 (.slice (some ⟨g, 0, none⟩) es.length cap) es.length (ce es)) (hok : okEs es) (hlen : es.length ≤ 1000000000)
    (hc : w.cell? ⟨c, 0, none⟩ = some listF) (hcl : c < w.heap.size) (hcg : c ≠ g) :
    Calls Try.prog 78 #[.slice (some ⟨g, 0, none⟩) es.length cap, .func (.func 83) #[] #[.pointer (some ⟨c, 0, none⟩)]] w (SortRet w base g cap es) := by
  obtain ⟨d, hd⟩ : ∃ d : Array EK, d.toList.map Subtype.val = es := ⟨(es.attach.map fun e => (⟨e.1, hok e.1 e.2⟩ : EK)).toArray, by simp⟩
  subst hd
  have hds : (d.toList.map Subtype.val).length = d.size := by simp
  rcases hown.2 with ⟨h0, _⟩ | ⟨g', cap', cur, hv, hg, hb, h1, h2, h3, h4⟩
  · cases h0
  cases hv
  have hblk : g < w.heap.size := (Array.getElem?_eq_some_iff.1 hb).1
  rw [hds] at h1 h4
  have hH : HoldsK encE 3 w g 0 d := by
    intro j hj
    have hj' : j < d.size * 3 := by simpa using hj
    refine ⟨?_, by simp [World.frozen?, hb]⟩
    have e := hown.cellAt j (by rw [hds]; exact hj')
    rw [show (⟨g, 0 + j, none⟩ : Addr) = ⟨g, j, none⟩ by simp, e, ← flat_ce, Array.getElem?_toList, getElem!_pos _ j hj]
    simp [hj']
  have hcmp : CmpLays Try.prog 83 #[.pointer (some ⟨c, 0, none⟩)] encE 3 cfE g 0 d.size w := by
    intro m os dk hdk x y
    have hc' : (sortWorldK encE 3 w g 0 m dk os).cell? ⟨c, 0, none⟩ = some listF := by
      unfold sortWorldK
      refine (World.cell?_of_block (heap_grow_old _ _ ?_)).trans ?_
      · simpa [putRowK] using hcl
      · exact (cell?_putRowK_other encE 3 (Sort.ahead w m) g 0 dk ⟨c, 0, none⟩ hcg).trans hc
    have hs' : c < (sortWorldK encE 3 w g 0 m dk os).heap.size := Nat.lt_of_lt_of_le hcl (size_sortWorldK_c encE 3 w g 0 m dk os)
    refine (byc_any x.1 y.1 c _ hc' x.2 y.2 hs').mono ?_
    rintro e w' ⟨⟨q, os', hq⟩, he⟩
    exact ⟨he, q, os', hq⟩
  have hlt : d.size < 4611686018427387904 := by rw [hds] at hlen; omega
  have hcon := AnyQ.slices_SortFunc_total Try.sortEdges 3 Try.isAgg48 Try.sizeOf48 encE (fun _ => rfl) (fun x v hv => by simp [encE, E3.cells] at hv; rcases hv with rfl | rfl | rfl <;> rfl) cfE swoE 83 #[.pointer (some ⟨c, 0, none⟩)] g 0 cap d w (fun args w => lenters w args) hcmp hH hblk hlt totE
  rw [hds]
  refine hcon.mono ?_
  rintro e w' ⟨he, n, os, rfl⟩
  refine ⟨he, grownBy_sortedE _, ?_⟩
  have hF : (flatK encE 3 (d.toList.mergeSort fun x y => !(ltOf cfE) y x).toArray).toList = ce (sortE (d.toList.map Subtype.val)) := by
    rw [flat_ce]
    congr 1
    show (d.toList.mergeSort fun x y => !(ltOf cfE) y x).map Subtype.val = _
    unfold sortE
    exact List.map_mergeSort fun a _ b _ => rfl
  refine ⟨by rw [ce_length, sortE_length, hds], .inr ⟨g, cap, _, rfl, hg, heap_sortedE _ hb, by rw [hds]; exact h1, h2, by simp [putCells, h3], ?_⟩⟩
  rw [← hF, hds]
  have := take_putE cur (flatK encE 3 (d.toList.mergeSort fun x y => !(ltOf cfE) y x).toArray) (by simp [h3]; exact Nat.mul_le_mul_right 3 h1)
  simpa using this
end Go.Proofs.Ythpgeeaccmgbkaa

/- The contract of graph.Make: at edges of which no two are equal, if what comes out is valid. -/
namespace Go.Proofs.Ythpgeeaccmgbkaa
open Go.RowKit

theorem okEs_sort {es : List E3} (h : okEs es) : okEs (sortE es) := fun e he => h e ((List.mergeSort_perm es leE).mem_iff.1 he)
theorem own_form {w : World} {base : Nat} {e : TypeId} {size : Nat} {v : Value} {n : Nat} {xs : List Value} (h : w.ownsRow base e size v n xs) (hn : n ≠ 0) : ∃ g cap, v = .slice (some ⟨g, 0, none⟩) n cap := by
  rcases h.2 with ⟨_, h0⟩ | ⟨g, cap, cur, hv, _⟩
  · exact absurd h0 hn
  · exact ⟨g, cap, hv⟩
theorem own_mono {w : World} {base base' : Nat} {e : TypeId} {size : Nat} {v : Value} {n : Nat} {xs : List Value} (h : w.ownsRow base e size v n xs) (hb : base' ≤ base) : w.ownsRow base' e size v n xs :=
  ⟨h.1, h.2.imp_right fun ⟨g, c, cur, h1, h2, h3⟩ => ⟨g, c, cur, h1, Nat.le_trans hb h2, h3⟩⟩
/-- What graph.Make returns where the edges are in order. -/
def MakeRet (w : World) (L S : Int) (es : List E3) (e : Ending) (w' : World) : Prop :=
  Below w.heap.size w w' ∧ ∃ g cap, e = .returned (.tuple #[.agg #[.int .i64 L, .int .i64 S, .slice (some ⟨g, 0, none⟩) es.length cap], .int .i64 0]) ∧ w'.ownsRow w.heap.size 48 3 (.slice (some ⟨g, 0, none⟩) es.length cap) es.length (ce (sortE es))

set_option maxRecDepth 100000 in
set_option maxHeartbeats 1600000 in
theorem make_any (L S : Int) (es : List E3) (v : Value) (w : World) (hr : Row w v es.length (ce es)) (hok : okEs es) (hne : es ≠ []) (hlen : es.length ≤ 1000000000) (hno : NoTwins (sortE es)) (hchk : chk L S (sortE es) = 0) :
    Calls Try.prog 57 #[.int .i64 L, .int .i64 S, v] w (MakeRet w L S es) := by
  obtain ⟨a0, c0, rfl, hle⟩ := hr.slice
  have hr0 := hr.below ((Below.refl w.heap.size w).alloc (Nat.le_refl _) (.cells #[.int .i64 0, .int .i64 0, .slice none 0 0] 24)) (Nat.le_refl _)
  have hres := Blk.new w 24 [.int .i64 0, .int .i64 0, .slice none 0 0]
  have HRES := Lib.hid hres; clear hres
  have HR := Lib.hid hr0; clear hr0 hr
  have HOK := Lib.hid hok; clear hok
  have hnl : es.length ≠ 0 := fun h => hne (List.eq_nil_of_length_eq_zero h)
  clear hne
  have HNO := Lib.hid hno; clear hno
  have HCH := Lib.hid hchk; clear hchk
  go_enter Try.func57, Try.ntmps57
  go_wp2_with (first | (go_at_call 77; refine (cloneEdges_any es _ _ HR.out hlen).mono ?_; rintro e w1 ⟨hq, v1, rfl, hown⟩; obtain ⟨g, cap, rfl⟩ := own_form hown hnl; have hgl := hown.lt g rfl; have hown2 := own_below hown ((Below.refl w1.heap.size w1).alloc (Nat.le_refl _) (.cells #[listF] 100)); have hl2 := (Blk.new w1 100 [listF]).cell (j := 0) rfl; have hcg : w1.heap.size ≠ g := (by omega); have HQ1 := Lib.hid hq; clear hq; have HO1 := Lib.hid hown2; clear hown2 hown; have HL2 := Lib.hid hl2; clear hl2) | (go_at_call 65; refine (by_any _).mono ?_; rintro e w' ⟨rfl, rfl⟩) | (go_at_call 78; refine (sort_any es _ g cap w1.heap.size _ HO1.out HOK.out hlen HL2.out (by simp) hcg).mono ?_; rintro e w2 ⟨rfl, hgr, hown3⟩; have hrow := own_row hown3; have HG := Lib.hid hgr; clear hgr; have HO3 := Lib.hid hown3; clear hown3; have HR3 := Lib.hid hrow; clear hrow) | (go_at_call 79; refine (compactEdges_any (sortE es) _ _ (by rw [sortE_length]; exact HR3.out) HNO.out).mono ?_; rintro e w3 ⟨hq3, rfl⟩; have HQ3 := Lib.hid hq3; clear hq3) | (go_at_call 40; refine (check_any L S (sortE es) _ _ ((by rw [sortE_length]; exact HR3.out : Row w2 (.slice (some ⟨g, 0, none⟩) es.length cap) (sortE es).length (ce (sortE es))).below (HQ3.out.alloc HQ3.out.size _) (Nat.le_refl _)) (okEs_sort HOK.out)).mono ?_; rintro e w4 ⟨hq4, rfl⟩; have b1 := (HRES.out.below HQ1.out (by simp)).alloc (.cells #[listF] 100); have b2 := b1.of_block (HG.out.block w.heap.size (by have := HQ1.out.size; simp at this ⊢; omega) (fun e => by have := Option.some.inj e; have h3 := hgl.1; simp at h3; omega)); have hs2 := HG.out.size; have hs1 := HQ1.out.size; have b3 := (b2.below HQ3.out (by simp at hs1 hs2; omega)).alloc (.cells #[.int .i64 L, .int .i64 S, .slice (some ⟨g, 0, none⟩) es.length cap] 24); have b4 := b3.below hq4 (by have := HQ3.out.size; simp at hs1 hs2 ⊢; omega); have n4 := (Blk.new w3 24 [.int .i64 L, .int .i64 S, .slice (some ⟨g, 0, none⟩) es.length cap]).below hq4 (by simp); have r0 := b4.cell (j := 0) rfl; have r1 := b4.cell (j := 1) rfl; have r2 := b4.cell (j := 2) rfl; have f0 := b4.frozen 0; have f1 := b4.frozen 1; have f2 := b4.frozen 2; have m0 := n4.cell (j := 0) rfl; have m1 := n4.cell (j := 1) rfl; have m2 := n4.cell (j := 2) rfl; clear b1 b2 b3 b4 n4; have HQ4 := Lib.hid hq4; clear hq4; rw [HCH.out]))
  have s1 := ((Below.refl w.heap.size w).alloc (Nat.le_refl _) (.cells #[.int .i64 0, .int .i64 0, .slice none 0 0] 24)).trans (HQ1.out.mono (by simp))
  have s2 := (s1.alloc s1.size (.cells #[listF] 100)).grown HG.out (by have := s1.size; simp; omega) (fun j hj => by cases hj; have h3 := hgl.1; simp only [World.size_alloc] at h3; omega)
  have s3 := s2.trans (HQ3.out.mono s2.size)
  have s4 := s3.alloc s3.size (.cells #[.int .i64 L, .int .i64 S, .slice (some ⟨g, 0, none⟩) es.length cap] 24)
  have s5 := s4.trans (HQ4.out.mono s4.size)
  have o5 := own_below ((own_below HO3.out HQ3.out).alloc (.cells #[.int .i64 L, .int .i64 S, .slice (some ⟨g, 0, none⟩) es.length cap] 24)) HQ4.out
  have hgw : (Value.slice (some ⟨g, 0, none⟩) es.length cap).ownBlock ≠ some w.heap.size := fun e => by have h4 := Option.some.inj (show some g = some w.heap.size from e); have h3 := hgl.1; simp only [World.size_alloc] at h3; omega
  have o6 := own_setCell (own_setCell (own_setCell (own_mono o5 (base' := w.heap.size) (by simp)) ⟨w.heap.size, 0, none⟩ (.int .i64 L) hgw) ⟨w.heap.size, 1, none⟩ (.int .i64 S) hgw) ⟨w.heap.size, 2, none⟩ (.slice (some ⟨g, 0, none⟩) es.length cap) hgw
  have s6 := ((s5.setCell (p := ⟨w.heap.size, 0, none⟩) (Nat.le_refl _) (.int .i64 L)).setCell (p := ⟨w.heap.size, 1, none⟩) (Nat.le_refl _) (.int .i64 S)).setCell (p := ⟨w.heap.size, 2, none⟩) (Nat.le_refl _) (.slice (some ⟨g, 0, none⟩) es.length cap)
  have S6 := Lib.hid s6; clear s1 s2 s3 s4 s5 s6
  have O6 := Lib.hid o6; clear o5 o6
  refine bodyPost_ret (v := .tuple #[.agg #[.int .i64 L, .int .i64 S, .slice (some ⟨g, 0, none⟩) es.length cap], .int .i64 0]) (by simp [results, Try.results57, go_sem, *]) rfl ⟨S6.out, g, cap, rfl, O6.out⟩
end Go.Proofs.Ythpgeeaccmgbkaa

/- graph.Make without edges. -/
namespace Go.Proofs.Ythpgeeaccmgbkaa
open Go.RowKit

def SameRet (v : Value) (w : World) (e : Ending) (w' : World) : Prop := e = .returned v ∧ w' = w
set_option maxRecDepth 100000 in
set_option maxHeartbeats 3200000 in
theorem clone_nil (w : World) : Calls Try.prog 77 #[.slice none 0 0] w (SameRet (.slice none 0 0) w) := by
  have hnil := fun (wx : World) => Lib.run_eql_slice_nil (P := Try.prog) wx 22 48 none 0 0 0 0 Try.underlying22
  simp only [Option.isNone_none] at hnil
  go_enter Try.func77, Try.ntmps77
  go_wp2_with fail
  go_ret
  exact ⟨rfl, rfl⟩
set_option maxRecDepth 100000 in
set_option maxHeartbeats 3200000 in
theorem ins_nil (F : Value) (w : World) : Calls Try.prog 100 #[.slice none 0 0, .int .i64 0, .int .i64 0, F] w (SameRet (.tuple #[]) w) := by
  go_enter Try.func100, Try.ntmps100
  go_wp2_with fail
  go_loopw [8] (fun i wr => i = .int .i64 1 ∧ wr = w) (fun _ _ => 0)
  case atStart => exact ⟨rfl, rfl⟩
  case round =>
    obtain ⟨rfl, rfl⟩ := hrel
    go_wp2_with fail
    go_end0
    exact ⟨rfl, rfl⟩
set_option maxRecDepth 100000 in
set_option maxHeartbeats 3200000 in
theorem pdq_nil (l : Int) (F : Value) (w : World) : Calls Try.prog 92 #[.slice none 0 0, .int .i64 0, .int .i64 0, .int .i64 l, F] w (SameRet (.tuple #[]) w) := by
  have hin := fun w' => ins_nil F w'
  have HIN := Lib.hid hin; clear hin
  go_enter Try.func92, Try.ntmps92
  go_wp2_with fail
  go_loopw [1, 2] (fun a b wr => a = .int .i64 0 ∧ b = .int .i64 0 ∧ wr = w) (fun _ _ _ => 0)
  case atStart => exact ⟨rfl, rfl, rfl⟩
  case round =>
    obtain ⟨rfl, rfl, rfl⟩ := hrel
    go_wp2_with fail
    go_at_call 100
    refine (HIN.out _).mono ?_
    rintro e w1 ⟨rfl, rfl⟩
    go_wp2_with fail
    go_end0
    exact ⟨rfl, rfl⟩
set_option maxRecDepth 100000 in
set_option maxHeartbeats 3200000 in
theorem sort_nil (F : Value) (w : World) : Calls Try.prog 78 #[.slice none 0 0, F] w (SameRet (.tuple #[]) w) := by
  have hp := fun l w' => pdq_nil l F w'
  have hb := fun w' => Try.bits_Len 0 w' (by omega) (by omega)
  have HP := Lib.hid hp; clear hp
  have HB := Lib.hid hb; clear hb
  go_enter Try.func78, Try.ntmps78
  go_wp2_with fail
  go_at_call 93
  refine (HB.out _).mono ?_
  rintro e w1 ⟨rfl, rfl⟩
  go_wp2_with fail
  go_at_call 92
  refine (HP.out _ _).mono ?_
  rintro e w2 ⟨rfl, rfl⟩
  go_wp2_with fail
  go_end0
  exact ⟨rfl, rfl⟩
set_option maxRecDepth 100000 in
set_option maxHeartbeats 3200000 in
theorem make_nil (L S : Int) (w : World) (hc : chk L S [] = 0) : Calls Try.prog 57 #[.int .i64 L, .int .i64 S, .slice none 0 0] w (Ret w (.tuple #[.agg #[.int .i64 L, .int .i64 S, .slice none 0 0], .int .i64 0])) := by
  have hck := fun w' => check_any L S [] (.slice none 0 0) w' (.inl ⟨rfl, rfl, rfl⟩) (fun e he => by cases he)
  rw [hc] at hck
  have hcp := fun w' => compactEdges_any [] (.slice none 0 0) w' (.inl ⟨rfl, rfl, rfl⟩) (fun k x y h => by cases h)
  have hres := Blk.new w 24 [.int .i64 0, .int .i64 0, .slice none 0 0]
  have s0 := (Below.refl w.heap.size w).alloc (Nat.le_refl _) (.cells #[.int .i64 0, .int .i64 0, .slice none 0 0] 24)
  have hcl := fun w' => clone_nil w'
  have hso := fun F w' => sort_nil F w'
  have HCK := Lib.hid hck; clear hck
  have HCP := Lib.hid hcp; clear hcp
  have HRES := Lib.hid hres; clear hres
  have S0 := Lib.hid s0; clear s0
  have HCL := Lib.hid hcl; clear hcl
  have HSO := Lib.hid hso; clear hso
  clear hc
  go_enter Try.func57, Try.ntmps57
  go_wp2_with fail
  go_at_call 77
  refine (HCL.out _).mono ?_
  rintro e w1 ⟨rfl, rfl⟩
  go_wp2_with fail
  go_at_call 65
  refine (by_any _).mono ?_
  rintro e w2 ⟨rfl, rfl⟩
  go_wp2_with fail
  go_at_call 78
  refine (HSO.out _ _).mono ?_
  rintro e w3 ⟨rfl, rfl⟩
  go_wp2_with fail
  go_at_call 79
  refine (HCP.out _).mono ?_
  rintro e w4 ⟨hq, rfl⟩
  have s1 := S0.out.alloc (by simp) (.cells #[listF] 100)
  have b1 := Blk.alloc HRES.out (.cells #[listF] 100)
  have s4 := s1.trans (hq.mono s1.size)
  have b4 := Blk.keep b1 hq
  have n5 := Blk.new w4 24 [.int .i64 L, .int .i64 S, .slice none 0 0]
  have s5 := s4.alloc s4.size (.cells #[.int .i64 L, .int .i64 S, .slice none 0 0] 24)
  have b5 := Blk.alloc b4 (.cells #[.int .i64 L, .int .i64 S, .slice none 0 0] 24)
  have x0 := n5.cell (j := 0) rfl
  have x1 := n5.cell (j := 1) rfl
  have x2 := n5.cell (j := 2) rfl
  have N5 := Lib.hid n5; clear n5
  have S5 := Lib.hid s5; clear s5
  have B5 := Lib.hid b5; clear b5
  clear hq s1 b1 s4 b4
  go_wp2_with fail
  go_at_call 40
  refine (HCK.out _).mono ?_
  rintro e w5 ⟨hq, rfl⟩
  have s6 := S5.out.trans (hq.mono S5.out.size)
  have b6 := Blk.keep B5.out hq
  have n6 := Blk.keep N5.out hq
  clear x0 x1 x2
  have x0 := n6.cell (j := 0) rfl
  have x1 := n6.cell (j := 1) rfl
  have x2 := n6.cell (j := 2) rfl
  have g0 := b6.cell (j := 0) rfl
  have g1 := b6.cell (j := 1) rfl
  have g2 := b6.cell (j := 2) rfl
  have f0 := b6.frozen 0
  have f1 := b6.frozen 1
  have f2 := b6.frozen 2
  have b7 := ((b6.set 0 (.int .i64 L)).set 1 (.int .i64 S)).set 2 (.slice none 0 0)
  have e0 := b7.cell (j := 0) rfl
  have e1 := b7.cell (j := 1) rfl
  have e2 := b7.cell (j := 2) rfl
  have s7 := ((s6.setCell (p := ⟨w.heap.size, 0, none⟩) (Nat.le_refl _) (.int .i64 L)).setCell (p := ⟨w.heap.size, 1, none⟩) (Nat.le_refl _) (.int .i64 S)).setCell (p := ⟨w.heap.size, 2, none⟩) (Nat.le_refl _) (.slice none 0 0)
  have S7 := Lib.hid s7; clear s7
  clear hq s6 b6 n6 b7
  go_wp2_with fail
  refine bodyPost_ret (v := .tuple #[.agg #[.int .i64 L, .int .i64 S, .slice none 0 0], .int .i64 0]) (by simp [results, Try.results57, go_sem, e0, e1, e2]) rfl ⟨S7.out, rfl⟩
end Go.Proofs.Ythpgeeaccmgbkaa

/- graph.Reverse at valid graphs. -/
namespace Go.Proofs.Ythpgeeaccmgbkaa
open Go.RowKit

theorem leE_iff (a b : E3) : leE a b = true ↔ ¬ cmpE b a < 0 := by simp [leE]
theorem sort_strict {l : List E3} (h : l.Nodup) : (sortE l).Pairwise (fun a b => cmpE a b < 0) := by
  have h1 : (sortE l).Pairwise (fun a b => leE a b = true) := List.pairwise_mergeSort (le := leE) (fun a b c h1 h2 => by
    rw [leE_iff, cmpE_lt2] at *
    omega) (fun a b => by
    by_cases hab : leE a b = true
    · rw [hab]; rfl
    · have : leE b a = true := by
        rw [leE_iff, cmpE_lt2] at *
        omega
      rw [this]; simp) l
  have h2 : (sortE l).Nodup := (List.mergeSort_perm l leE).nodup_iff.2 h
  refine (h1.and h2).imp fun {a b} hab => ?_
  obtain ⟨h3, h4⟩ := hab
  rw [leE_iff, cmpE_lt2] at h3
  rw [cmpE_lt2]
  have h5 : ¬ (a.f = b.f ∧ a.l = b.l ∧ a.t = b.t) := fun e => h4 (by
    cases a; cases b
    simp only at e
    obtain ⟨rfl, rfl, rfl⟩ := e
    rfl)
  omega
theorem strict_twins {l : List E3} (h : l.Pairwise (fun a b => cmpE a b < 0)) : NoTwins l := fun k x y hx hy e => by
  subst e
  obtain ⟨h1, h2⟩ := List.getElem?_eq_some_iff.1 hx
  obtain ⟨h3, h4⟩ := List.getElem?_eq_some_iff.1 hy
  have h5 := (List.pairwise_iff_getElem.1 h) k (k + 1) h1 h3 (by omega)
  rw [h2, h4, cmpE_lt2] at h5
  omega
theorem map_nodup {es : List E3} (h : es.Nodup) : (es.map revE).Nodup := by
  unfold List.Nodup
  rw [List.pairwise_map]
  exact h.imp fun {a b} hab e => hab (revE_inj e)
theorem chk_nat {L S : Int} {es : List E3} (h : chk L S es = 0) : ∃ k : Nat, S = k := ⟨S.toNat, by have := chk_all h; omega⟩
theorem greverse_all : RvAll := fun L S es v w hr hok hc => by
  obtain ⟨k, rfl⟩ := chk_nat hc
  refine grev_in L (k : Int) es v w hr hok hc (fun v' w' hnil hrow => ?_)
  have hnd := map_nodup (chk_nodup hc)
  have hst := sort_strict hnd
  have hpm : (sortE (es.map revE)).Perm (es.map revE) := List.mergeSort_perm _ leE
  have hcr := chk_rev hc hpm hst
  by_cases hne : es.map revE = []
  · have hv := hnil hne
    subst hv
    rw [hne]
    have hs0 : sortE ([] : List E3) = [] := by unfold sortE; simp
    rw [hne, hs0] at hcr
    refine (make_nil L (k : Int) w' hcr).mono ?_
    rintro e w2 ⟨hq, rfl⟩
    exact ⟨hq, _, [], rfl, World.ownsRow_nil _ _ _ _, List.Perm.refl _, List.Pairwise.nil⟩
  · have hlen : (es.map revE).length ≤ 1000000000 := by
      have := (chk_all hc).2.2.2.1
      rw [List.length_map]; omega
    refine (make_any L (k : Int) (es.map revE) v' w' hrow (okEs_rev hok) hne hlen (strict_twins hst) hcr).mono ?_
    rintro e w2 ⟨hq, g, cap, rfl, hown⟩
    have hl : (sortE (es.map revE)).length = (es.map revE).length := hpm.length_eq
    exact ⟨hq, _, sortE (es.map revE), rfl, by rw [hl]; exact hown, hpm, hst⟩
set_option maxRecDepth 100000 in
theorem lrev_true (L S : Int) (es : List E3) (v : Value) (a1 a2 a3 : Nat) (w : World) (hr : Row w v es.length (ce es)) (hok : okEs es) (h1 : a1 ≤ 255) (h2 : a2 ≤ 255) (h3 : a3 ≤ 255) :
    Calls Try.prog 8 #[.agg #[.int .i64 L, .int .i64 S, v], .int .u8 (a1 : Int), .int .u8 (a2 : Int), .int .u8 (a3 : Int)] w (Ret w (.bool true)) :=
  lrev_all greverse_all L S es v a1 a2 a3 w hr hok h1 h2 h3
end Go.Proofs.Ythpgeeaccmgbkaa

