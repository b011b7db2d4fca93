/- The contract of slices.SortFunc at edges with the closure of graph.by. -/
import Derived.Test.YtadibbbaegbljaaSortLay
import Derived.Test.YtadibbbaegbljaaCompact
namespace Go.Proofs.Ytadibbbaegbljaa
open Go.RowKit Go.Sort

theorem cmpE_lt (a b : E3) : cmpE a b < 0 ↔ a.f < b.f ∨ (a.f = b.f ∧ (a.l < b.l ∨ (a.l = b.l ∧ a.t < b.t))) := by
  have h : ∀ x y : Int, (cmpI x y = 0 ↔ x = y) ∧ (cmpI x y < 0 ↔ x < y) := by
    intro x y
    unfold cmpI
    by_cases h1 : x < y
    · simp [h1]; omega
    · by_cases h2 : y < x
      · simp [h1, h2]; omega
      · simp [h1, h2]; omega
  have e : cmpE a b = if cmpI a.f b.f = 0 then (if cmpI a.l b.l = 0 then (if cmpI a.t b.t = 0 then 0 else cmpI a.t b.t) else cmpI a.l b.l) else cmpI a.f b.f := rfl
  rw [e]
  by_cases h1 : cmpI a.f b.f = 0
  · rw [if_pos h1]
    have h1' := (h _ _).1.1 h1
    by_cases h2 : cmpI a.l b.l = 0
    · rw [if_pos h2]
      have h2' := (h _ _).1.1 h2
      by_cases h3 : cmpI a.t b.t = 0
      · rw [if_pos h3]
        have h3' := (h _ _).1.1 h3
        omega
      · rw [if_neg h3, (h _ _).2]; omega
    · rw [if_neg h2, (h _ _).2]
      have := mt (h a.l b.l).1.2 h2
      omega
  · rw [if_neg h1, (h _ _).2]
    have := mt (h a.f b.f).1.2 h1
    omega

abbrev EK := { e : E3 // e.ok }
instance : Inhabited EK := ⟨⟨⟨0, 0, 0⟩, by unfold E3.ok Ints; simp⟩⟩
def encE (e : EK) : List Value := e.1.cells
def cfE (a b : EK) : Int := cmpE a.1 b.1
theorem ltE (a b : EK) : ltOf cfE a b = decide (a.1.f < b.1.f ∨ (a.1.f = b.1.f ∧ (a.1.l < b.1.l ∨ (a.1.l = b.1.l ∧ a.1.t < b.1.t)))) := by
  unfold ltOf cfE
  exact decide_eq_decide.2 (cmpE_lt _ _)
theorem swoE : SWO (ltOf cfE) where
  irrefl x := by rw [ltE]; simp
  trans x y z h1 h2 := by rw [ltE] at *; simp only [decide_eq_true_eq] at *; omega
  ntrans x y z h1 h2 := by rw [ltE] at *; simp only [decide_eq_false_iff_not] at *; omega
theorem totE (x y : EK) (h1 : ltOf cfE x y = false) (h2 : ltOf cfE y x = false) : x = y := by
  rw [ltE] at h1 h2
  simp only [decide_eq_false_iff_not] at h1 h2
  apply Subtype.ext
  obtain ⟨⟨a, b, c⟩, _⟩ := x
  obtain ⟨⟨a', b', c'⟩, _⟩ := y
  simp only [E3.mk.injEq] at *
  omega
/-- Edges in their order. -/
def leE (a b : E3) : Bool := !decide (cmpE b a < 0)
def sortE (l : List E3) : List E3 := l.mergeSort leE
theorem sortE_length (l : List E3) : (sortE l).length = l.length := by simp [sortE]

theorem ce_at (l : List E3) (t : Nat) (h : t < l.length * 3) : (ce l)[t]! = (E3.cells l[t / 3]!)[t % 3]! := by
  have h1 : t / 3 < l.length := by omega
  have h2 : t % 3 < (E3.cells l[t / 3]!).length := by simp [E3.cells]; omega
  have e := ce_get (l := l) (k := t / 3) (j := t % 3) (e := l[t / 3]!) (u := (E3.cells l[t / 3]!)[t % 3]!) (by rw [getElem!_pos l _ h1]; exact List.getElem?_eq_getElem h1) (by rw [getElem!_pos (E3.cells l[t / 3]!) (t % 3) h2]; exact List.getElem?_eq_getElem h2)
  rw [show t / 3 * 3 + t % 3 = t by omega] at e
  rw [List.getElem!_eq_getElem?_getD, e]; rfl

theorem flat_ce (d : Array EK) : (flatK encE 3 d).toList = ce (d.toList.map Subtype.val) := by
  apply List.ext_getElem
  · simp [ce_length]
  · intro t h1 h2
    have h3 : t < d.size * 3 := by simpa using h1
    have h4 : t < (d.toList.map Subtype.val).length * 3 := by simpa using h3
    have e1 := get_flatK encE 3 d t h3
    have e2 := ce_at (d.toList.map Subtype.val) t h4
    rw [getElem!_pos _ t (by simpa using h3)] at e1
    rw [getElem!_pos _ t h2] at e2
    rw [Array.getElem_toList, e1, e2]
    have h5 : t / 3 < d.size := by omega
    rw [getElem!_pos d _ h5, getElem!_pos (d.toList.map Subtype.val) _ (by simpa using h5)]
    simp [encE]

/-- The slice of edges that the sort leaves. -/
def SortRet (w : World) (base g cap : Nat) (es : List E3) (e : Ending) (w' : World) : Prop :=
  e = .returned (.tuple #[]) ∧ w.grownBy w' (some g) ∧ w'.ownsRow base 60 3 (.slice (some ⟨g, 0, none⟩) es.length cap) es.length (ce (sortE es))

theorem heap_sortedE {w : World} {g n : Nat} {os : Array Obj} {cur : Array Value} {e : TypeId} {fr : Nat × Nat} (F : Array Value) (hb : w.heap[g]? = some (.cells cur e fr)) :
    (grow (putRow id (Sort.ahead w n) g 0 F) os).heap[g]? = some (.cells (putCells id 0 F cur) e fr) := by
  have hg : g < w.heap.size := (Array.getElem?_eq_some_iff.1 hb).1
  rw [heap_grow_old _ _ (by simpa using hg)]
  simp [putRow, mapBlock, Sort.ahead, Array.getElem?_modify, hb, onCells]
theorem grownBy_sortedE {w : World} {g n : Nat} {os : Array Obj} (F : Array Value) : w.grownBy (grow (putRow id (Sort.ahead w n) g 0 F) os) (some g) := by
  refine ⟨rfl, rfl, rfl, by simp, fun k hk hne => ?_⟩
  rw [heap_grow_old _ _ (by simpa using hk)]
  have : g ≠ k := fun e => hne (by rw [e])
  simp [putRow, mapBlock, Sort.ahead, Array.getElem?_modify, this]
theorem take_putE (cur F : Array Value) (h : F.size ≤ cur.size) : (putCells id 0 F cur).toList.take F.size = F.toList := by
  apply List.ext_getElem?
  intro j
  by_cases hj : j < F.size
  · rw [List.getElem?_take_of_lt hj, Array.getElem?_toList]
    simp [putCells, hj, show j < cur.size by omega]
  · rw [List.getElem?_take_eq_none (by omega), List.getElem?_eq_none (by simp; omega)]

theorem lenters (w : World) (args : Array Value) : (callFunc 82 args).run Try.prog w = .ok (.enter 82 args) w := enters_of Try.func82 (by kernel_rfl) rfl args w

theorem sort_any (es : List E3) (base g cap c : Nat) (w : World) (hown : w.ownsRow base 60 3 (.slice (some ⟨g, 0, none⟩) es.length cap) es.length (ce es)) (hok : okEs es) (hlen : es.length ≤ 1000000000)
    (hc : w.cell? ⟨c, 0, none⟩ = some listF) (hcl : c < w.heap.size) (hcg : c ≠ g) :
    Calls Try.prog 91 #[.slice (some ⟨g, 0, none⟩) es.length cap, .func (.func 82) #[] #[.pointer (some ⟨c, 0, none⟩)]] w (SortRet w base g cap es) := by
  obtain ⟨d, hd⟩ : ∃ d : Array EK, d.toList.map Subtype.val = es := ⟨(es.attach.map fun e => (⟨e.1, hok e.1 e.2⟩ : EK)).toArray, by simp⟩
  subst hd
  have hds : (d.toList.map Subtype.val).length = d.size := by simp
  rcases hown.2 with ⟨h0, _⟩ | ⟨g', cap', cur, hv, hg, hb, h1, h2, h3, h4⟩
  · cases h0
  cases hv
  have hblk : g < w.heap.size := (Array.getElem?_eq_some_iff.1 hb).1
  rw [hds] at h1 h4
  have hH : HoldsK encE 3 w g 0 d := by
    intro j hj
    have hj' : j < d.size * 3 := by simpa using hj
    refine ⟨?_, by simp [World.frozen?, hb]⟩
    have e := hown.cellAt j (by rw [hds]; exact hj')
    rw [show (⟨g, 0 + j, none⟩ : Addr) = ⟨g, j, none⟩ by simp, e, ← flat_ce, Array.getElem?_toList, getElem!_pos _ j hj]
    simp [hj']
  have hcmp : CmpLays Try.prog 82 #[.pointer (some ⟨c, 0, none⟩)] encE 3 cfE g 0 d.size w := by
    intro m os dk hdk x y
    have hc' : (sortWorldK encE 3 w g 0 m dk os).cell? ⟨c, 0, none⟩ = some listF := by
      unfold sortWorldK
      refine (World.cell?_of_block (heap_grow_old _ _ ?_)).trans ?_
      · simpa [putRowK] using hcl
      · exact (cell?_putRowK_other encE 3 (Sort.ahead w m) g 0 dk ⟨c, 0, none⟩ hcg).trans hc
    have hs' : c < (sortWorldK encE 3 w g 0 m dk os).heap.size := Nat.lt_of_lt_of_le hcl (size_sortWorldK_c encE 3 w g 0 m dk os)
    refine (byc_any x.1 y.1 c _ hc' x.2 y.2 hs').mono ?_
    rintro e w' ⟨⟨q, os', hq⟩, he⟩
    exact ⟨he, q, os', hq⟩
  have hlt : d.size < 4611686018427387904 := by rw [hds] at hlen; omega
  have hcon := AnyQ.slices_SortFunc_total Try.sortEdges 3 Try.isAgg60 Try.sizeOf60 encE (fun _ => rfl) (fun x v hv => by simp [encE, E3.cells] at hv; rcases hv with rfl | rfl | rfl <;> rfl) cfE swoE 82 #[.pointer (some ⟨c, 0, none⟩)] g 0 cap d w (fun args w => lenters w args) hcmp hH hblk hlt totE
  rw [hds]
  refine hcon.mono ?_
  rintro e w' ⟨he, n, os, rfl⟩
  refine ⟨he, grownBy_sortedE _, ?_⟩
  have hF : (flatK encE 3 (d.toList.mergeSort fun x y => !(ltOf cfE) y x).toArray).toList = ce (sortE (d.toList.map Subtype.val)) := by
    rw [flat_ce]
    congr 1
    show (d.toList.mergeSort fun x y => !(ltOf cfE) y x).map Subtype.val = _
    unfold sortE
    exact List.map_mergeSort fun a _ b _ => rfl
  refine ⟨by rw [ce_length, sortE_length, hds], .inr ⟨g, cap, _, rfl, hg, heap_sortedE _ hb, by rw [hds]; exact h1, h2, by simp [putCells, h3], ?_⟩⟩
  rw [← hF, hds]
  have := take_putE cur (flatK encE 3 (d.toList.mergeSort fun x y => !(ltOf cfE) y x).toArray) (by simp [h3]; exact Nat.mul_le_mul_right 3 h1)
  simpa using this
end Go.Proofs.Ytadibbbaegbljaa
