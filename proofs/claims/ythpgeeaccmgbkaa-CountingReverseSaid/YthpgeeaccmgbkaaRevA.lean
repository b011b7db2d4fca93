/- Contracts and plain laws of several functions, one after the other: PlainP, CompP, RevP, EdgesC, GRev, PlainOr, OrbQ, LRev. -/
import Derived.Laws.StructEq
import Derived.Deep.AppendLies
import Derived.Deep.RegionLaw
import Derived.Deep.QuietTactic
import Derived.Test.YthpgeeaccmgbkaaPart10
import Derived.Test.YthpgeeaccmgbkaaPart8
import Derived.Test.YthpgeeaccmgbkaaPart2
import Derived.Test.YthpgeeaccmgbkaaPart1
import Derived.Test.YthpgeeaccmgbkaaPart3
import Derived.Test.YthpgeeaccmgbkaaCheck
import Derived.Test.YthpgeeaccmgbkaaPart4
import Derived.Test.YthpgeeaccmgbkaaPart14
import Derived.Test.YthpgeeaccmgbkaaPart13
import Derived.Test.YthpgeeaccmgbkaaDivM
import Derived.Test.YthpgeeaccmgbkaaFin22
import Derived.Test.YthpgeeaccmgbkaaAwk22
import Derived.Test.YthpgeeaccmgbkaaPart6
/- Paths to the states of a set add up to the words to it, in plain Lean. -/
namespace Go.Proofs.Ythpgeeaccmgbkaa
open Go.RowKit

/-- By the last edge. -/
theorem cw_last (es : List E3) : ∀ (n : Nat) (s t : Int), cw es (ind t) (n + 1) s = ((es.filter fun e => e.t == t).map fun e => cw es (ind e.f) n s).sum
  | 0, s, t => by
    rw [cw, sum_filter', sum_filter']
    congr 1
    apply List.map_congr_left
    intro e _
    rw [cw_ind0, cw_ind0]
    by_cases h1 : e.f = s
    · by_cases h2 : e.t = t
      · simp [h1, h2]
      · simp [h1, h2]
    · have h1' : ¬ s = e.f := fun h => h1 h.symm
      by_cases h2 : e.t = t
      · simp [h1, h1', h2]
      · simp [h1, h2]
  | n + 1, s, t => by
    rw [cw]
    rw [show (fun e : E3 => cw es (ind t) (n + 1) e.t) = fun e => ((es.filter fun e' => e'.t == t).map fun e' => cw es (ind e'.f) n e.t).sum from funext fun e => cw_last es n e.t t]
    rw [sum_swap]
    rfl
/-- Turned round, the paths lead back. -/
theorem cw_turn (es : List E3) : ∀ (n : Nat) (s t : Int), cw (es.map swp) (ind s) n t = cw es (ind t) n s
  | 0, s, t => by rw [cw_ind0, cw_ind0]; by_cases h : s = t <;> simp [h, eq_comm]
  | n + 1, s, t => by
    rw [cw_last es n s t, cw, List.filter_map, List.map_map]
    congr 1
    apply List.map_congr_left
    intro e _
    exact cw_turn es n s e.f
theorem pth_eq (es : List E3) (n : Nat) (s t : Int) : pth es n s t = cw es (ind t) n s := cw_turn es n s t
/-- To the states of a set. -/
theorem cw_set (es : List E3) {l : List Int} (hl : l.Pairwise (· < ·)) : ∀ (n : Nat) (s : Int), (l.map fun t => cw es (ind t) n s).sum = cw es (pin l) n s
  | 0, s => by
    rw [cw]
    induction l with
    | nil => simp [pin]
    | cons x l ih =>
      obtain ⟨h1, h2⟩ := List.pairwise_cons.1 hl
      rw [List.map_cons, List.sum_cons, ih h2, cw_ind0]
      unfold pin
      by_cases hx : s = x
      · have : s ∉ l := fun h => by have := h1 s h; omega
        simp [hx]
        rw [hx] at this
        simp [this]
      · simp [hx]
  | n + 1, s => by
    rw [cw]
    rw [show (fun t : Int => cw es (ind t) (n + 1) s) = fun t => ((es.filter fun e => e.f == s).map fun e => cw es (ind t) n e.t).sum from rfl]
    rw [sum_swap]
    congr 1
    apply List.map_congr_left
    intro e _
    exact cw_set es hl n e.t
theorem pth_set (es : List E3) {l : List Int} (hl : l.Pairwise (· < ·)) (n : Nat) (s : Int) : (l.map fun t => pth es n s t).sum = cw es (pin l) n s := by
  rw [← cw_set es hl]
  congr 1
  apply List.map_congr_left
  intro t _
  exact pth_eq es n s t
end Go.Proofs.Ythpgeeaccmgbkaa

/- Paths compose, plain. -/
namespace Go.Proofs.Ythpgeeaccmgbkaa

/-- The sum over the first k middle states. -/
def mid (es : List E3) (a b : Nat) (s t : Int) (k : Nat) : Int := ((List.range k).map fun (j : Nat) => pth es a s (j : Int) * pth es b (j : Int) t).sum
theorem mid_zero (es : List E3) (a b : Nat) (s t : Int) : mid es a b s t 0 = 0 := rfl
theorem mid_succ (es : List E3) (a b : Nat) (s t : Int) (k : Nat) : mid es a b s t (k + 1) = mid es a b s t k + pth es a s (k : Int) * pth es b (k : Int) t := by
  simp [mid, List.range_succ]
theorem mid_full {S : Nat} {es : List E3} (hin : InS S es) (a b s : Nat) (t : Int) (hs : s < S) : mid es a b (s : Int) t S = pth es (a + b) (s : Int) t := by
  rw [pth_eq, ← cw_comp hin t b a s hs]
  unfold mid
  congr 1
  apply List.map_congr_left
  intro j _
  rw [pth_eq, pth_eq]
end Go.Proofs.Ythpgeeaccmgbkaa

/- The reversed graph, plain: its paths are those of the graph, backwards. -/
namespace Go.Proofs.Ythpgeeaccmgbkaa

def revE (e : E3) : E3 := ⟨e.t, e.l, e.f⟩
theorem revE_inj {a b : E3} (h : revE a = revE b) : a = b := by
  cases a; cases b
  simp only [revE, E3.mk.injEq] at h ⊢
  exact ⟨h.2.2, h.2.1, h.1⟩
theorem adj_rev {es rs : List E3} (h : rs.Perm (es.map revE)) (i k : Nat) : adjF rs i k = adjF es k i := by
  unfold adjF
  have h1 : (rs.filter fun e => decide (e.f = (i : Int)) && decide (e.t = (k : Int))).length = ((es.map revE).filter fun e => decide (e.f = (i : Int)) && decide (e.t = (k : Int))).length := (h.filter _).length_eq
  rw [h1, List.filter_map, List.length_map]
  congr 2
  apply List.filter_congr
  intro e _
  show (decide (e.t = (i : Int)) && decide (e.f = (k : Int))) = _
  rw [Bool.and_comm]
theorem gw_T (a : Nat → Nat → Int) {V : List Nat} (hV : V.Nodup) : ∀ (n i j : Nat), i ∈ V → j ∈ V → gw (fun x y => a y x) V n j i = gw a V n i j
  | 0, i, j, _, _ => by
    show (if j = i then (1 : Int) else 0) = if i = j then 1 else 0
    by_cases e : i = j
    · rw [if_pos e, if_pos e.symm]
    · rw [if_neg e, if_neg (fun h => e h.symm)]
  | n + 1, i, j, hi, hj => by
    rw [← gw_comp hV 1 j n i hi]
    show (V.map fun l => a l j * gw (fun x y => a y x) V n l i).sum = _
    refine sum_congr fun l hl => ?_
    have h1 : gw a V 1 l j = a l j := by
      show (V.map fun m => a l m * (if m = j then 1 else 0)).sum = a l j
      rw [← pick_list hV hj (fun m => a l m)]
      refine sum_congr fun m _ => ?_
      rw [Int.mul_comm]
      by_cases e : j = m
      · rw [if_pos e, if_pos e.symm]
      · rw [if_neg e, if_neg (fun h => e h.symm)]
    rw [h1, gw_T a hV n i l hi hl, Int.mul_comm]
theorem inS_rev {S : Nat} {es rs : List E3} (hin : InS S es) (h : rs.Perm (es.map revE)) : InS S rs := fun e he => by
  obtain ⟨x, hx, rfl⟩ := List.mem_map.1 (h.mem_iff.1 he)
  have := hin x hx
  exact ⟨this.2.2.1, this.2.2.2, this.1, this.2.1⟩
theorem cw_rev {S : Nat} {es rs : List E3} (hin : InS S es) (h : rs.Perm (es.map revE)) (n : Nat) {s t : Nat} (hs : s < S) (ht : t < S) : cw rs (ind (s : Int)) n (t : Int) = cw es (ind (t : Int)) n (s : Int) := by
  rw [← gw_cw (inS_rev hin h) s n t ht, ← gw_cw hin t n s hs]
  have e : adjF rs = fun x y => adjF es y x := by funext i k; exact adj_rev h i k
  rw [e]
  exact gw_T (adjF es) List.nodup_range n s t (List.mem_range.2 hs) (List.mem_range.2 ht)
theorem cl_rev {S : Nat} {es rs : List E3} (hin : InS S es) (h : rs.Perm (es.map revE)) (n : Nat) : clN rs S n = clN es S n := by
  unfold clN
  refine sum_congr fun s hs => ?_
  have := List.mem_range.1 hs
  exact cw_rev hin h n this this
theorem chkL_asc {L S : Int} : ∀ {es : List E3} {p : Option E3}, (∀ e ∈ es, ¬ edgeBad L S e) → es.Pairwise (fun a b => cmpE a b < 0) → (∀ q, p = some q → ∀ e ∈ es, cmpE q e < 0) → chkL L S p es = 0
  | [], p, _, _, _ => by cases p <;> rfl
  | e :: r, p, hb, hp, hq => by
    have h1 := hb e (by simp)
    rw [List.pairwise_cons] at hp
    have ih := chkL_asc (es := r) (p := some e) (fun x hx => hb x (by simp [hx])) hp.2 (fun q hq2 x hx => by cases hq2; exact hp.1 x hx)
    cases p with
    | none => rw [chkL, if_neg h1]; exact ih
    | some q =>
      have h2 := hq q rfl e (by simp)
      rw [chkL, if_neg h1, if_neg (by omega)]; exact ih
theorem chk_rev {L : Int} {S : Nat} {es rs : List E3} (hc : chk L (S : Int) es = 0) (h : rs.Perm (es.map revE)) (hp : rs.Pairwise (fun a b => cmpE a b < 0)) : chk L (S : Int) rs = 0 := by
  have hca := chk_all hc
  have hl : rs.length = es.length := by rw [h.length_eq, List.length_map]
  unfold chk
  rw [if_neg, if_neg (by omega), if_neg (by omega)]
  · refine chkL_asc (fun e he => ?_) hp (fun q hq => by cases hq)
    obtain ⟨x, hx, rfl⟩ := List.mem_map.1 (h.mem_iff.1 he)
    have := hca.2.2.2.2 x hx
    unfold edgeBad revE at *
    dsimp only
    omega
  · intro hL
    unfold chk at hc
    rw [if_pos hL] at hc
    cases hc
/-- A valid graph's edges are all different. -/
theorem chkL_pair {L S : Int} : ∀ {es : List E3} {p : Option E3}, chkL L S p es = 0 → es.Pairwise (fun a b => cmpE a b < 0)
  | [], _, _ => List.Pairwise.nil
  | [a], _, _ => by simp
  | a :: b :: r, p, h => by
    have hb : ¬ edgeBad L S a := fun hb => by rw [chk_bad hb] at h; cases h
    have h2 : chkL L S (some a) (b :: r) = 0 := by
      cases p with
      | none => rw [chkL, if_neg hb] at h; exact h
      | some q =>
        rw [chkL, if_neg hb] at h
        split at h
        · cases h
        · exact h
    have hbb : ¬ edgeBad L S b := fun hb => by rw [chk_bad hb] at h2; cases h2
    have hlt : cmpE a b < 0 := by
      rw [chkL, if_neg hbb] at h2
      split at h2
      · cases h2
      · omega
    have ih := chkL_pair h2
    refine List.Pairwise.cons (fun e he => ?_) ih
    rcases List.mem_cons.1 he with rfl | he
    · exact hlt
    · have h3 := (List.pairwise_cons.1 ih).1 e he
      rw [cmpE_lt2] at hlt h3 ⊢
      omega
theorem chk_nodup {L S : Int} {es : List E3} (hc : chk L S es = 0) : es.Nodup := by
  have h : chkL L S none es = 0 := by
    unfold chk at hc
    split at hc
    · cases hc
    · split at hc
      · cases hc
      · split at hc
        · cases hc
        · exact hc
  refine (chkL_pair h).imp fun {a b} h2 e => ?_
  subst e
  rw [cmpE_lt2] at h2
  omega
end Go.Proofs.Ythpgeeaccmgbkaa

/- slices.Clone at edges. -/
namespace Go.Proofs.Ythpgeeaccmgbkaa
open Go.RowKit

theorem infoEdge : (Try.prog.info? 48).map (fun i => (i.zero, i.size, i.bytes)) = some (some (.agg #[.int .i64 0, .int .i64 0, .int .i64 0]), 3, 24) := by kernel_rfl

/-- What slices.Clone at edges returns: a slice of its own. -/
def CloneRet (w : World) (es : List E3) (e : Ending) (w' : World) : Prop :=
  Below w.heap.size w w' ∧ ∃ v, e = .returned v ∧ w'.ownsRow w.heap.size 48 3 v es.length (ce es)
set_option maxRecDepth 100000 in
set_option maxHeartbeats 1600000 in
theorem cloneEdges_any (es : List E3) (v : Value) (w : World) (hr : Row w v es.length (ce es)) (hlen : es.length ≤ 1000000000) :
    Calls Try.prog 77 #[v] w (CloneRet w es) := by
  rcases hr with ⟨rfl, h1, h2⟩ | ⟨b, off, cap, rfl, h1, h2, h3, h4⟩
  · have hd : es = [] := List.length_eq_zero_iff.1 h1
    subst hd
    clear h1 h2
    have hnil := fun (wx : World) => Lib.run_eql_slice_nil (P := Try.prog) wx 22 48 none 0 0 0 0 Try.underlying22
    simp only [Option.isNone_none] at hnil
    go_enter Try.func77, Try.ntmps77
    go_wp2_with fail
    go_ret
    exact ⟨Below.refl _ _, .slice none 0 0, rfl, World.ownsRow_nil _ _ _ _⟩
  · have hnil := fun (wx : World) => Lib.run_eql_slice_nil (P := Try.prog) wx 22 48 (some ⟨b, off, none⟩) es.length cap 0 0 Try.underlying22
    simp only [Option.isNone_some] at hnil
    obtain ⟨i0, hi, hz0, hz1, hz2⟩ := info_parts infoEdge
    have hm0 := World.ownsRow_made w (#[] : Array Value) 0 (base := w.heap.size) (e := 48) (size := 3) (Nat.le_refl _) (Nat.zero_le _) rfl
    have hc : ∀ (j : Nat) (u : Value), (ce es)[j]? = some u → (w.alloc (.cells #[] 48)).cell? ((⟨b, off, none⟩ : Addr).add j) = some u := by
      intro j u hu
      have e : (⟨b, off, none⟩ : Addr).add j = ⟨b, off + j, none⟩ := by
        unfold Addr.add
        split
        · rename_i h0; subst h0; rfl
        · rfl
      rw [e, below_new w _ h3]; exact h4 j u hu
    have h1c : ∀ u ∈ ce es, u.oneCell' = true := by
      intro u hu
      simp only [ce, List.mem_flatMap] at hu
      obtain ⟨e, _, hu⟩ := hu
      simp only [E3.cells, List.mem_cons, List.not_mem_nil, or_false] at hu
      rcases hu with rfl | rfl | rfl <;> rfl
    have hcl := ce_length es
    have HM0 := Lib.hid hm0; clear hm0
    have HC := Lib.hid hc; clear hc
    have H1C := Lib.hid h1c; clear h1c
    have HCL := Lib.hid hcl; clear hcl
    clear h4
    go_enter Try.func77, Try.ntmps77
    go_wp2_with (at_builtin; refine wpList_append_own _ rfl (.tmp 5) (.tmp 6) 22 rfl w.heap.size 48 i0 _ 3 24 Try.underlying22 hi hz0 hz1 hz2 rfl (by decide) _ _ _ rfl HM0.out _ _ _ (ce es) rfl HCL.out HC.out H1C.out (by unfold maxLen; omega) (by omega) (by simp) ?_; intro v' w1 hown hg hnn)
    rw [Nat.zero_add, List.nil_append] at hown
    have HO := Lib.hid hown; clear hown
    have HG := Lib.hid hg; clear hg
    clear hnn
    go_wp2_with fail
    go_ret
    exact ⟨((Below.refl w.heap.size w).alloc (Nat.le_refl _) _).grown HG.out (by simp) (fun k hk => by cases hk; exact Nat.le_refl _), v', rfl, HO.out⟩
end Go.Proofs.Ythpgeeaccmgbkaa

/- graph.Reverse at valid graphs, given what graph.Make answers. -/
namespace Go.Proofs.Ythpgeeaccmgbkaa
open Go.RowKit

/-- A graph with the reversed edges, in order. -/
def RvRet (L S : Int) (es : List E3) (w : World) (e : Ending) (w' : World) : Prop :=
  Below w.heap.size w w' ∧ ∃ v rs, e = .returned (.tuple #[.agg #[.int .i64 L, .int .i64 S, v], .int .i64 0]) ∧ w'.ownsRow w.heap.size 48 3 v rs.length (ce rs) ∧ rs.Perm es ∧ rs.Pairwise (fun a b => cmpE a b < 0)
theorem okEs_rev {es : List E3} (h : okEs es) : okEs (es.map revE) := fun e he => by
  obtain ⟨x, hx, rfl⟩ := List.mem_map.1 he
  have h2 := h x hx
  unfold E3.ok at *
  intro z hz
  refine h2 z ?_
  have hz2 : z = x.t ∨ z = x.l ∨ z = x.f := by simpa [revE] using hz
  rcases hz2 with rfl | rfl | rfl <;> simp
theorem ce_app (l k : List E3) : ce (l ++ k) = ce l ++ ce k := by simp [ce]
theorem own_mono' {w : World} {base base' : Nat} {e : TypeId} {size : Nat} {v : Value} {n : Nat} {xs : List Value} (h : w.ownsRow base e size v n xs) (hb : base' ≤ base) : w.ownsRow base' e size v n xs :=
  ⟨h.1, h.2.imp_right fun ⟨g, c, cur, h1, h2, h3⟩ => ⟨g, c, cur, h1, Nat.le_trans hb h2, h3⟩⟩
set_option maxRecDepth 100000 in
set_option maxHeartbeats 3200000 in
theorem grev_in (L S : Int) (es : List E3) (v : Value) (w : World) (hr : Row w v es.length (ce es)) (hok : okEs es) (hc : chk L S es = 0)
    (hmake : ∀ v' w', (es.map revE = [] → v' = .slice none 0 0) → Row w' v' (es.map revE).length (ce (es.map revE)) → Calls Try.prog 57 #[.int .i64 L, .int .i64 S, v'] w' (RvRet L S (es.map revE) w')) :
    Calls Try.prog 24 #[.agg #[.int .i64 L, .int .i64 S, v]] w (RvRet L S (es.map revE) w) := by
  obtain ⟨va, vc, rfl, hle⟩ := hr.slice
  obtain ⟨i0, hi, hz0, hz1', hz2'⟩ := info_parts infoEdge
  obtain ⟨m, hm⟩ : ∃ m, m = es.length := ⟨_, rfl⟩
  have hlen := (chk_all hc).2.2.2.1
  have bg := (Blk.new w 24 [.int .i64 L, .int .i64 S, .slice va es.length vc]).alloc (.cells #[.int .i64 0, .int .i64 0, .slice none 0 0] 24)
  have br := Blk.new (w.alloc (.cells #[.int .i64 L, .int .i64 S, .slice va es.length vc] 24)) 24 [.int .i64 0, .int .i64 0, .slice none 0 0]
  have s0 := ((Below.refl w.heap.size w).alloc (Nat.le_refl _) (.cells #[.int .i64 L, .int .i64 S, .slice va es.length vc] 24)).alloc (by simp) (.cells #[.int .i64 0, .int .i64 0, .slice none 0 0] 24)
  simp only [World.size_alloc] at br
  have hr0 := hr.below s0 (Nat.le_refl _)
  have hck := fun w' h => check_any L S es (.slice va es.length vc) w' h hok
  rw [hc] at hck
  have hsnoc : ∀ k x, es[k]? = some x → ce ((es.take (k + 1)).map revE) = ce ((es.take k).map revE) ++ [.int .i64 x.t, .int .i64 x.l, .int .i64 x.f] := fun k x hx => by
    rw [List.take_add_one, hx, List.map_append, ce_app]; rfl
  have hget : ∀ k, k < m → ∃ x, es[k]? = some x := fun k hk => ⟨es[k]'(by omega), List.getElem?_eq_getElem _⟩
  have hfull : (es.take m).map revE = es.map revE := by rw [hm, List.take_length]
  have hlr : (es.map revE).length = m := by rw [List.length_map, hm]
  have hm0 : m ≤ 1024 := by omega
  rw [← hm] at bg br s0 hr0 hck hle
  rw [hlr] at hmake
  rw [← hm]
  have x0 := bg.cell (j := 0) rfl
  have x1 := bg.cell (j := 1) rfl
  have x2 := bg.cell (j := 2) rfl
  have HCK := Lib.hid hck; clear hck
  have HSN := Lib.hid hsnoc; clear hsnoc
  have HGET := Lib.hid hget; clear hget
  have HFULL := Lib.hid hfull; clear hfull
  have HMAKE := Lib.hid hmake; clear hmake
  have S0 := Lib.hid s0; clear s0
  have BG := Lib.hid bg; clear bg
  have BR := Lib.hid br; clear br
  have HR0 := Lib.hid hr0; clear hr0
  have HR := Lib.hid hr; clear hr
  have HM := Lib.hid hm; clear hm
  clear hc hok hlr
  go_enter Try.func24, Try.ntmps24
  go_wp2_with fail
  go_at_call 40
  refine (HCK.out _ HR0.out).mono ?_
  rintro e w1 ⟨hq, rfl⟩
  have s1 := S0.out.trans (hq.mono S0.out.size)
  have bg1 := BG.out.keep hq
  have br1 := BR.out.keep hq
  have hbr1 := br1.lt
  clear x0 x1 x2
  have x0 := bg1.cell (j := 0) rfl
  have x1 := bg1.cell (j := 1) rfl
  have x2 := bg1.cell (j := 2) rfl
  have hg1 := bg1.lt
  have S1 := Lib.hid s1; clear s1
  have BG1 := Lib.hid bg1; clear bg1
  have BR1 := Lib.hid br1; clear br1
  clear hq
  go_wp2_with fail
  go_loopw [4, 14] (fun u i wr => ∃ k : Nat, k ≤ m ∧ i = .int .i64 k ∧ wr.ownsRow w1.heap.size 48 3 u k (ce ((es.take k).map revE)) ∧ Below w1.heap.size w1 wr ∧ (k = 0 → u = .slice none 0 0)) (fun _ i _ => m - (intOf i).toNat)
  case atStart => exact ⟨0, Nat.zero_le _, rfl, World.ownsRow_nil _ _ _ _, Below.refl _ _, fun _ => rfl⟩
  case round =>
    obtain ⟨k, hk, rfl, hown, hbel, hun⟩ := hrel
    obtain ⟨wo, rfl⟩ : ∃ wo : World, wo = wr := ⟨_, rfl⟩
    have hszo := hbel.size
    obtain ⟨ua, ucap, rfl⟩ := own_slice hown
    have HUN := Lib.hid hun; clear hun
    have d1 := BG1.out.keep hbel
    clear x0 x1 x2
    by_cases hkm : k < m
    · obtain ⟨x, hx⟩ := HGET.out k hkm
      have hsn := HSN.out k x hx
      have hbw0 := S1.out.trans (hbel.mono S1.out.size)
      obtain ⟨b, off, rfl, hbw, hce⟩ := HR.out.at_ (by have := HM.out; omega)
      have bX := Blk.new wo 48 [.int .i64 x.f, .int .i64 x.l, .int .i64 x.t]
      have sX := (Below.refl wo.heap.size wo).alloc (Nat.le_refl _) (.cells #[.int .i64 x.f, .int .i64 x.l, .int .i64 x.t] 48)
      obtain ⟨q0, q1, q2⟩ := edge_cells hce hbw0 hbw hx
      have y0 := bX.cell (j := 0) rfl
      have y1 := bX.cell (j := 1) rfl
      have y2 := bX.cell (j := 2) rfl
      have hix1 : (0 : Int) ≤ (k : Int) := by omega
      have hix2 : (k : Int) < (m : Int) := by omega
      have hoX := hown.alloc (.cells #[.int .i64 x.f, .int .i64 x.l, .int .i64 x.t] 48)
      have hbX := hbel.trans (sX.mono hszo)
      have hszX := hbX.size
      have hnews : ∀ (j : Nat) (u : Value), ([.int .i64 x.t, .int .i64 x.l, .int .i64 x.f] : List Value)[j]? = some u → ((wo.alloc (.cells #[.int .i64 x.f, .int .i64 x.l, .int .i64 x.t] 48)).alloc (.cells #[.int .i64 x.t, .int .i64 x.l, .int .i64 x.f] 48)).cell? ((Addr.mk (wo.heap.size + 1) 0 none).add j) = some u := by
        have h := World.news_of_block (heap_alloc_new (wo.alloc (.cells #[.int .i64 x.f, .int .i64 x.l, .int .i64 x.t] 48)) (.cells #[.int .i64 x.t, .int .i64 x.l, .int .i64 x.f] 48))
        rw [World.size_alloc] at h
        exact h
      have HNEWS := Lib.hid hnews; clear hnews
      have HSNK := Lib.hid hsn; clear hsn
      have HOX := Lib.hid hoX; clear hoX
      have HBX := Lib.hid hbX; clear hbX
      clear hown hbel hx hce bX sX hbw0 d1
      go_wp2_with (at_builtin; refine wpList_append_lies _ rfl (.tmp 18) (.tmp 26) 22 rfl w1.heap.size 48 i0 _ 3 24 Try.underlying22 hi hz0 hz1' hz2' rfl (by decide) _ _ _ rfl (HOX.out.alloc _) _ 1 1 [.int .i64 x.t, .int .i64 x.l, .int .i64 x.f] rfl rfl HNEWS.out (by simp [Value.oneCell']) (by omega) (by unfold maxLen; omega) (by omega) (by simp; omega) _ rfl ?_; intro g cap' w3 hown' hg hat hlt'; have HG := Lib.hid hg; clear hg; have HO4 := Lib.hid hown'; clear hown'; have HAT := Lib.hid hat; clear hat)
      go_roundw
      case rel =>
        refine ⟨k + 1, by omega, by go_num, ?_, (HBX.out.alloc hszX _).grown HG.out (by simp; omega) (fun j hj => (HOX.out.lt j hj).1), fun h => absurd h (by omega)⟩
        rw [HSNK.out]; exact HO4.out
      case measure => simp [intOf]; omega
    · have hkm2 : k = m := by omega
      rw [hkm2, HFULL.out] at hown
      have hrow := own_row hown
      have x0 := d1.cell (j := 0) rfl
      have x1 := d1.cell (j := 1) rfl
      have x2 := d1.cell (j := 2) rfl
      have hun2 : k = 0 → Value.slice ua m ucap = .slice none 0 0 := by rw [← hkm2]; exact HUN.out
      have hmk := HMAKE.out _ wo (fun h => hun2 (by rw [hkm2, HM.out]; exact List.length_eq_zero_iff.2 (by simpa using h))) hrow
      clear hun2
      have br2 := BR1.out.keep hbel
      have s2 := S1.out.trans (hbel.mono S1.out.size)
      have tk : decide ((k : Int) < (m : Int)) = false := by simp; omega
      rw [hkm2]
      have HMK := Lib.hid hmk; clear hmk
      have BR2 := Lib.hid br2; clear br2
      have S2 := Lib.hid s2; clear s2
      clear hown hrow hbel d1 hkm2
      go_wp2_with fail
      go_at_call 57
      refine HMK.out.mono ?_
      rintro e w4 ⟨hq, v4, rs, rfl, hrow4, hp, hpw⟩
      have s4 := S2.out.trans (hq.mono S2.out.size)
      have br4 := BR2.out.keep hq
      have f0 := br4.frozen 0
      have f1 := br4.frozen 1
      have f2 := br4.frozen 2
      have g0 := br4.cell (j := 0) rfl
      have g1 := br4.cell (j := 1) rfl
      have g2 := br4.cell (j := 2) rfl
      have hbl4 := br4.lt
      have b6 := ((br4.set 0 (.int .i64 L)).set 1 (.int .i64 S)).set 2 v4
      have e0 := b6.cell (j := 0) rfl
      have e1 := b6.cell (j := 1) rfl
      have e2 := b6.cell (j := 2) rfl
      have s6 := ((s4.setCell (p := ⟨w.heap.size + 1, 0, none⟩) (show w.heap.size ≤ w.heap.size + 1 by omega) (.int .i64 L)).setCell (p := ⟨w.heap.size + 1, 1, none⟩) (show w.heap.size ≤ w.heap.size + 1 by omega) (.int .i64 S)).setCell (p := ⟨w.heap.size + 1, 2, none⟩) (show w.heap.size ≤ w.heap.size + 1 by omega) v4
      have hrb : ∀ W6, W6 = ((w4.setCell ⟨w.heap.size + 1, 0, none⟩ (.int .i64 L)).setCell ⟨w.heap.size + 1, 1, none⟩ (.int .i64 S)).setCell ⟨w.heap.size + 1, 2, none⟩ v4 → True := fun _ _ => trivial
      obtain ⟨va4, vc4, rfl⟩ := own_slice hrow4
      have hwo : w.heap.size + 1 < wo.heap.size := by omega
      have hne4 : (Value.slice va4 rs.length vc4).ownBlock ≠ some (w.heap.size + 1) := fun e => by
        have := (hrow4.lt _ e).1
        omega
      have S6 := Lib.hid s6; clear s6
      have HROW4 := Lib.hid hrow4; clear hrow4
      have HP := Lib.hid hp; clear hp
      have HPW := Lib.hid hpw; clear hpw
      clear hq s4 br4 b6 hrb x0 x1 x2
      go_wp2_with fail
      refine bodyPost_ret (v := .tuple #[.agg #[.int .i64 L, .int .i64 S, .slice va4 rs.length vc4], .int .i64 0]) (by simp [results, Try.results24, go_sem, e0, e1, e2]) rfl ⟨S6.out, _, rs, rfl, ?_, HP.out, HPW.out⟩
      exact own_setCell (own_setCell (own_setCell (own_mono' HROW4.out (by omega)) ⟨w.heap.size + 1, 0, none⟩ (.int .i64 L) hne4) ⟨w.heap.size + 1, 1, none⟩ (.int .i64 S) hne4) ⟨w.heap.size + 1, 2, none⟩ (.slice va4 rs.length vc4) hne4
end Go.Proofs.Ythpgeeaccmgbkaa

/- Moebius' inversion up to 40, plain: the sum that counting.Orbits computes. -/
namespace Go.Proofs.Ythpgeeaccmgbkaa

/-- How often the closed paths of the least period e are counted. -/
def muK (n e : Nat) : Int := ((divL n n).map fun x => if 0 < e ∧ x.1 % e = 0 then x.2 else 0).sum
theorem muK_one : ∀ n ∈ List.range 41, 0 < n → ∀ e ∈ List.range 41, muK n e = if e = n then 1 else 0 := by decide +kernel
/-- The sum over the divisors of d below M. -/
def dS (P : Nat → Nat) (d M : Nat) : Int := ((List.range M).map fun e => if 0 < e ∧ d % e = 0 then (P e : Int) else 0).sum
theorem dS_succ (P : Nat → Nat) (d M : Nat) : dS P d (M + 1) = dS P d M + if 0 < M ∧ d % M = 0 then (P M : Int) else 0 := by
  simp [dS, List.range_succ]
theorem dS_ext (P : Nat → Nat) {d : Nat} (hd : 0 < d) (k : Nat) : dS P d (d + 1 + k) = dS P d (d + 1) := by
  induction k with
  | zero => rfl
  | succ k ih =>
    rw [← Nat.add_assoc, dS_succ, ih, if_neg]
    · simp
    · rw [Nat.mod_eq_of_lt (by omega)]; omega
theorem dS_cast (P : Nat → Nat) (d M : Nat) : ((((List.range M).map fun e => if 0 < e ∧ d % e = 0 then P e else 0).sum : Nat) : Int) = dS P d M := by
  induction M with
  | zero => rfl
  | succ M ih =>
    rw [dS_succ, ← ih, List.range_succ]
    simp only [List.map_append, List.sum_append, List.map_cons, List.map_nil, List.sum_cons, List.sum_nil, Nat.add_zero, Int.natCast_add]
    split <;> simp
theorem mul_sum' {α : Type} (c : Int) (l : List α) (f : α → Int) : c * (l.map f).sum = (l.map fun x => c * f x).sum := by
  induction l with
  | nil => simp
  | cons x l ih => simp only [List.map_cons, List.sum_cons, Int.mul_add, ih]
theorem sum_mul' {α : Type} (c : Int) (l : List α) (f : α → Int) : (l.map fun x => f x * c).sum = (l.map f).sum * c := by
  induction l with
  | nil => simp
  | cons x l ih => simp only [List.map_cons, List.sum_cons, Int.add_mul, ih]
theorem pick_sum (n : Nat) (f : Nat → Int) : ∀ M, n < M → ((List.range M).map fun e => if e = n then f e else 0).sum = f n := by
  have h0 : ∀ M, M ≤ n → ((List.range M).map fun e => if e = n then f e else 0).sum = 0 := fun M => by
    induction M with
    | zero => intro; rfl
    | succ M ih =>
      intro h
      rw [List.range_succ]
      simp only [List.map_append, List.sum_append, List.map_cons, List.map_nil, List.sum_cons, List.sum_nil]
      rw [ih (by omega), if_neg (by omega)]; rfl
  intro M
  induction M with
  | zero => intro h; omega
  | succ M ih =>
    intro h
    rw [List.range_succ]
    simp only [List.map_append, List.sum_append, List.map_cons, List.map_nil, List.sum_cons, List.sum_nil]
    by_cases e : n = M
    · subst e; rw [h0 n (Nat.le_refl _), if_pos rfl]; simp
    · rw [ih (by omega), if_neg (by omega)]; simp
theorem divL_range {n : Nat} {x : Nat × Int} (h : x ∈ divL n n) : 0 < x.1 ∧ x.1 ≤ n := by
  obtain ⟨i, hi, rfl⟩ := List.mem_map.1 h
  have := List.mem_range.1 (List.mem_filter.1 hi).1
  exact ⟨Nat.succ_pos _, this⟩
theorem mobius {P : Nat → Nat} {F : Nat → Int} (hF : ∀ d, 0 < d → d ≤ 40 → F d = dS P d (d + 1)) {n : Nat} (hn : 0 < n) (hn40 : n ≤ 40) : oS F (fun x : Nat × Int => x) (divL n n) = P n := by
  have h1 : ∀ x ∈ divL n n, x.2 * F x.1 = ((List.range 41).map fun e => (if 0 < e ∧ x.1 % e = 0 then x.2 else 0) * (P e : Int)).sum := fun x hx => by
    have hr := divL_range hx
    rw [hF x.1 hr.1 (by omega), ← dS_ext P hr.1 (40 - x.1), show x.1 + 1 + (40 - x.1) = 41 by omega, dS, mul_sum']
    congr 1
    refine List.map_congr_left fun e _ => ?_
    split <;> simp
  unfold oS
  rw [List.map_congr_left h1, sum_swap]
  have h2 : ∀ e ∈ List.range 41, ((divL n n).map fun x => (if 0 < e ∧ x.1 % e = 0 then x.2 else 0) * (P e : Int)).sum = if e = n then (P e : Int) else 0 := fun e he => by
    rw [sum_mul']
    have := muK_one n (List.mem_range.2 (by omega)) hn e he
    unfold muK at this
    rw [this]
    split <;> simp
  rw [List.map_congr_left h2]
  exact pick_sum n (fun e => (P e : Int)) 41 (by omega)
/-- The orbits of a graph: the closed paths of the least period d are d times as many as orbits. -/
theorem orbits_ex {es : List E3} {S : Nat} (hin : InS S es) : ∃ P : Nat → Nat, (∀ d, 0 < d → d ∣ P d) ∧ (∀ n, 0 < n → clN es S n = dS P n (n + 1)) ∧ (∀ n, 0 < n → n ≤ 40 → oS (clN es S) (fun x : Nat × Int => x) (divL n n) = P n) := by
  obtain ⟨P, h1, h2⟩ := necklace hin
  have h3 : ∀ n, 0 < n → clN es S n = dS P n (n + 1) := fun n hn => by rw [h2 n hn, dS_cast]
  exact ⟨P, h1, h3, fun n hn h40 => mobius (fun d hd _ => h3 d hd) hn h40⟩
end Go.Proofs.Ythpgeeaccmgbkaa

/- counting.Orbits at any valid graph, up to 40: the orbits. -/
namespace Go.Proofs.Ythpgeeaccmgbkaa
open Go.RowKit

theorem dS_nonneg (P : Nat → Nat) (d M : Nat) : 0 ≤ dS P d M := by
  induction M with
  | zero => exact Int.le_refl _
  | succ M ih => rw [dS_succ]; split <;> omega
theorem orb_le {es : List E3} {S : Nat} {P : Nat → Nat} (h : ∀ n, 0 < n → clN es S n = dS P n (n + 1)) {n : Nat} (hn : 0 < n) : (P n : Int) ≤ clN es S n := by
  rw [h n hn, dS_succ, if_pos ⟨hn, Nat.mod_self n⟩]
  have := dS_nonneg P n n
  omega
theorem dS_sm {es : List E3} {S : Nat} {P : Nat → Nat} (h : ∀ n, 0 < n → clN es S n = dS P n (n + 1)) (hl : es.length ≤ 1024) (hS : S ≤ 32) {n : Nat} (hn : 0 < n) : ∀ M, M ≤ n + 1 → sm (2 * n + 2) (dS P n M) := fun M hM => by
  have hmono : ∀ j, dS P n M ≤ dS P n (M + j) := fun j => by
    induction j with
    | zero => exact Int.le_refl _
    | succ j ih => rw [← Nat.add_assoc, dS_succ]; split <;> omega
  have h1 : dS P n M ≤ dS P n (n + 1) := by
    have := hmono (n + 1 - M)
    rwa [show M + (n + 1 - M) = n + 1 by omega] at this
  have h2 := clN_sm hl hS (Nat.le_refl n)
  rw [h n hn] at h2
  have h3 := dS_nonneg P n M
  unfold sm at h2 ⊢
  omega
theorem orbits_q (L : Int) (S N : Nat) (es : List E3) (v : Value) (P : Nat → Nat) (w : World) (hr : Row w v es.length (ce es)) (hok : okEs es) (hc : chk L (S : Int) es = 0) (hS : S ≤ 32) (hN1 : 1 ≤ N) (hN : N ≤ 40)
    (h2 : ∀ n, 0 < n → clN es S n = dS P n (n + 1)) (h3 : ∀ n, 0 < n → n ≤ 40 → oS (clN es S) (fun x : Nat × Int => x) (divL n n) = P n) :
    Calls Try.prog 12 #[.agg #[.int .i64 L, .int .i64 (S : Int), v], .int .i64 (N : Int)] w (Ret w (.tuple #[IntV ((P N / N : Nat) : Int), .int .i64 0])) := by
  have hca := chk_all hc
  have hle := orb_le h2 (n := N) (by omega)
  have hsm := clN_sm (es := es) hca.2.2.2.1 hS (Nat.le_refl N)
  have hX : P N < 4294967296 ^ (2 * N + 2) := by
    have h4 : (256 : Nat) ^ (2 * N + 2) ≤ 4294967296 ^ (2 * N + 2) := Nat.pow_le_pow_left (by decide) _
    unfold sm at hsm
    omega
  refine orbits_any L S N es v _ ((P N % N : Nat) : Int) w hr hok hc hS hN1 (by omega) (fun w' => ?_)
  rw [h3 N (by omega) hN]
  exact div_any (P N) N w' (2 * N + 2) hX (by omega) (by omega) (by omega)
end Go.Proofs.Ythpgeeaccmgbkaa

/- The law CountingReverse, given graph.Reverse. -/
namespace Go.Proofs.Ythpgeeaccmgbkaa
open Go.RowKit

/-- What graph.Reverse does. -/
def RvAll : Prop := ∀ (L S : Int) (es : List E3) (v : Value) (w : World), Row w v es.length (ce es) → okEs es → chk L S es = 0 → Calls Try.prog 24 #[.agg #[.int .i64 L, .int .i64 S, v]] w (RvRet L S (es.map revE) w)
set_option maxRecDepth 100000 in
set_option maxHeartbeats 8000000 in
theorem lrev_all (hrv : RvAll) (L S : Int) (es : List E3) (v : Value) (a1 a2 a3 : Nat) (w : World) (hr : Row w v es.length (ce es)) (hok : okEs es) (h1 : a1 ≤ 255) (h2 : a2 ≤ 255) (h3 : a3 ≤ 255) :
    Calls Try.prog 8 #[.agg #[.int .i64 L, .int .i64 S, v], .int .u8 (a1 : Int), .int .u8 (a2 : Int), .int .u8 (a3 : Int)] w (Ret w (.bool true)) := by
  obtain ⟨va, vc, rfl, hle⟩ := hr.slice
  obtain ⟨mz, hmz⟩ : ∃ mz, mz = es.length := ⟨_, rfl⟩
  have s0 := (Below.refl w.heap.size w).alloc (Nat.le_refl _) (.cells #[.int .i64 L, .int .i64 S, .slice va es.length vc] 24)
  have b0 := Blk.new w 24 [.int .i64 L, .int .i64 S, .slice va es.length vc]
  have hr0 := hr.below s0 (Nat.le_refl _)
  have hfi := fine22_any L S es _ _ hr0
  have haw := awake22_true
  have hrev := fun (hc : chk L S es = 0) w' (h : Row w' (.slice va es.length vc) es.length (ce es)) => hrv L S es _ w' h hok hc
  have hokr := okEs_rev hok
  have hpa := fun (k x y n : Nat) (rs : List E3) v' (hokk : okEs rs) (hc : chk L (k : Int) rs = 0) (hx : x < k) (hy : y < k) (hn : n ≤ 30) w' (h : Row w' v' rs.length (ce rs)) => paths_ok L k x y n rs v' w' h hokk hc hx hy (by omega)
  rw [← hmz] at s0 b0 hr0 hfi hrev
  have HMM := Lib.hid hmz; clear hmz
  have HFI := Lib.hid hfi; clear hfi
  have HAW := Lib.hid haw; clear haw
  have HREV := Lib.hid hrev; clear hrev
  have HPA := Lib.hid hpa; clear hpa
  have S0 := Lib.hid s0; clear s0
  have B0 := Lib.hid b0; clear b0
  have HR := Lib.hid hr0; clear hr0
  clear hr
  go_enter Try.func8, Try.ntmps8
  rw [← HMM.out]
  go_wp2_with fail
  go_at_call 9
  refine HFI.out.mono ?_
  rintro e w1 ⟨hq, b, rfl, hb⟩
  have s1 := S0.out.trans (hq.mono S0.out.size)
  have hr1 := HR.out.below hq (Nat.le_refl _)
  have tk := B0.out.keep hq; have x0 := tk.cell (j := 0) rfl; have x1 := tk.cell (j := 1) rfl; have x2 := tk.cell (j := 2) rfl; have C0 := Lib.hid tk; clear tk
  have S1 := Lib.hid s1; clear s1
  have HR1 := Lib.hid hr1; clear hr1
  clear hq
  cases b with
  | false =>
    go_wp2_with fail
    go_at_call 10
    refine (HAW.out _).mono ?_
    rintro e w2 ⟨hq, rfl⟩
    have HQ := Lib.hid hq; clear hq
    go_wp2_with fail
    go_ret
    exact ⟨S1.out.trans (HQ.out.mono S1.out.size), rfl⟩
  | true =>
    obtain ⟨hchk, hS8, hlen⟩ := hb rfl
    obtain ⟨k, rfl⟩ : ∃ k : Nat, S = k := ⟨S.toNat, by have := chk_all hchk; omega⟩
    by_cases hk0 : k = 0
    · have t0 : ((k : Int) == 0) = true := by simp [hk0]
      clear hb
      go_wp2_with fail
      go_at_call 10
      refine (HAW.out _).mono ?_
      rintro e w2 ⟨hq, rfl⟩
      have HQ := Lib.hid hq; clear hq
      go_wp2_with fail
      go_ret
      exact ⟨S1.out.trans (HQ.out.mono S1.out.size), rfl⟩
    · have t0 : ((k : Int) == 0) = false := by simp; omega
      have hk8 : k ≤ 8 := by omega
      obtain ⟨s, hs⟩ : ∃ s, s = a1 % k := ⟨_, rfl⟩
      obtain ⟨t, ht⟩ : ∃ t, t = a2 % k := ⟨_, rfl⟩
      obtain ⟨n, hn⟩ : ∃ n, n = 1 + a3 % 20 := ⟨_, rfl⟩
      have hsk : s < k := by rw [hs]; exact Nat.mod_lt _ (by omega)
      have htk : t < k := by rw [ht]; exact Nat.mod_lt _ (by omega)
      have hn1 : 1 ≤ n := by omega
      have hn20 : n ≤ 20 := by omega
      have r1 : Int.tmod (a1 : Int) (k : Int) = (s : Int) := by rw [Int.tmod_eq_emod_of_nonneg (by omega), ← Int.natCast_emod, ← hs]
      have r2 : Int.tmod (a2 : Int) (k : Int) = (t : Int) := by rw [Int.tmod_eq_emod_of_nonneg (by omega), ← Int.natCast_emod, ← ht]
      have r3 : 1 + (a3 : Int) % 20 = (n : Int) := by omega
      have hkn : ¬ (k : Int) = 0 := by omega
      have hin := chk_inS hchk
      obtain ⟨P, hP1, hP2, hP3⟩ := orbits_ex hin
      have hrvq := HREV.out hchk
      have cp1 := fun w' h => HPA.out k s t n es (.slice va mz vc) hok hchk hsk htk (by omega) w' h
      have cc1 := fun w' (h : Row w' (.slice va mz vc) es.length (ce es)) => Closed_ok L k n es _ w' h hok hchk (by omega) (by omega)
      have co1 := fun w' (h : Row w' (.slice va mz vc) es.length (ce es)) => orbits_q L k n es _ P w' h hok hchk (by omega) hn1 (by omega) hP2 hP3
      have hall : ∀ (rs : List E3) (v' : Value), rs.Perm (es.map revE) → rs.Pairwise (fun a b => cmpE a b < 0) → ∀ w', Row w' v' rs.length (ce rs) →
          Calls Try.prog 17 #[.agg #[.int .i64 L, .int .i64 (k : Int), v'], .int .i64 (t : Int), .int .i64 (s : Int), .int .i64 (n : Int)] w' (Ret w' (.tuple #[IntV (pth es n (s : Int) (t : Int)), .int .i64 0])) ∧
          Calls Try.prog 16 #[.agg #[.int .i64 L, .int .i64 (k : Int), v'], .int .i64 (n : Int)] w' (Ret w' (.tuple #[IntV (clN es k n), .int .i64 0])) ∧
          Calls Try.prog 12 #[.agg #[.int .i64 L, .int .i64 (k : Int), v'], .int .i64 (n : Int)] w' (Ret w' (.tuple #[IntV ((P n / n : Nat) : Int), .int .i64 0])) := fun rs v' hp hpw w' h => by
        have hcr := chk_rev hchk hp hpw
        have hokk : okEs rs := fun e he => hokr e (hp.mem_iff.1 he)
        have ecl : clN rs k = clN es k := by funext j; exact cl_rev hin hp j
        have q1 := HPA.out k t s n rs v' hokk hcr htk hsk (by omega) w' h
        have q2 := Closed_ok L k n rs v' w' h hokk hcr (by omega) (by omega)
        have q3 := orbits_q L k n rs v' P w' h hokk hcr (by omega) hn1 (by omega) (by rw [ecl]; exact hP2) (by rw [ecl]; exact hP3)
        rw [pth_eq, cw_rev hin hp n hsk htk, ← pth_eq] at q1
        rw [ecl] at q2
        exact ⟨q1, q2, q3⟩
      rw [← HMM.out] at cp1 cc1 co1
      obtain ⟨X, hX⟩ : ∃ X, X = pth es n (s : Int) (t : Int) := ⟨_, rfl⟩
      obtain ⟨Y, hY⟩ : ∃ Y, Y = clN es k n := ⟨_, rfl⟩
      obtain ⟨Z, hZ⟩ : ∃ Z : Int, Z = ((P n / n : Nat) : Int) := ⟨_, rfl⟩
      rw [← hX] at cp1 hall
      rw [← hY] at cc1 hall
      rw [← hZ] at co1 hall
      have heq : ∀ (U : Int) w', (binOp .eql 28 (.agg #[.bool (ineg U), .string (imag U)]) (.agg #[.bool (ineg U), .string (imag U)])).run Try.prog w' = .ok (.bool true) w' := fun U w' => by rw [eql_int, beq_toListBytes]; simp
      have heqX := heq X
      have heqY := heq Y
      have heqZ := heq Z
      have R3 := Lib.hid r3; clear r3
      have HRVQ := Lib.hid hrvq; clear hrvq
      have CP1 := Lib.hid cp1; clear cp1
      have CC1 := Lib.hid cc1; clear cc1
      have CO1 := Lib.hid co1; clear co1
      have HALL := Lib.hid hall; clear hall
      clear hb hchk hlen hs ht hn hin hP1 hP2 hP3 hX hY hZ heq hokr
      go_wp2_with fail
      go_quiet (fail)
      go_wp2_with fail
      rw [R3.out]
      go_at_call 24
      have hdr := below_drewN (Below.refl w1.heap.size w1) nq
      refine (HRVQ.out _ (HR1.out.below hdr (Nat.le_refl _))).mono ?_
      rintro e w2 ⟨hq0, vr, rs, rfl, hown, hp, hpw⟩
      have hq := hdr.trans (hq0.mono hdr.size)
      clear hq0 hdr
      have hrr := own_row hown
      obtain ⟨ra, rc, rfl⟩ := own_slice hown
      have hallr := HALL.out rs (.slice ra rs.length rc) hp hpw
      have s2 := S1.out.trans (hq.mono S1.out.size)
      have hr2 := HR1.out.below hq (Nat.le_refl _)
      have g2 := C0.out.keep hq
      obtain ⟨mr, hmr⟩ : ∃ mr, mr = rs.length := ⟨_, rfl⟩
      rw [← hmr] at hrr hallr
      rw [← hmr]
      have b2 := Blk.new w2 24 [.int .i64 L, .int .i64 (k : Int), .slice ra mr rc]
      have al2 := (Below.refl w2.heap.size w2).alloc (Nat.le_refl _) (.cells #[.int .i64 L, .int .i64 (k : Int), .slice ra mr rc] 24)
      have s3 := s2.trans (al2.mono s2.size)
      have hr3 := hr2.below al2 (Nat.le_refl _)
      have hrr3 := hrr.below al2 (Nat.le_refl _)
      have g3 := g2.keep al2
      clear x0 x1 x2
      have x0 := g3.cell (j := 0) rfl
      have x1 := g3.cell (j := 1) rfl
      have x2 := g3.cell (j := 2) rfl
      have y0 := b2.cell (j := 0) rfl
      have y1 := b2.cell (j := 1) rfl
      have y2 := b2.cell (j := 2) rfl
      have T2 := Lib.hid s3; clear s3
      have HE2 := Lib.hid hr3; clear hr3
      have HH2 := Lib.hid hrr3; clear hrr3
      have GG2 := Lib.hid g3; clear g3
      have HB2 := Lib.hid b2; clear b2
      have HAL := Lib.hid hallr; clear hallr
      clear hq hown hrr hp hpw hmr s2 hr2 g2 al2
      go_wp2_with fail
      go_at_call 17
      refine (CP1.out _ HE2.out).mono ?_
      rintro e w3 ⟨hq, rfl⟩
      have hal := hq.alloc hq.size (.cells #[.bool (ineg X), .string (imag X)] 28)
      have bN := Blk.new w3 28 [.bool (ineg X), .string (imag X)]
      have tN := T2.out.trans (hal.mono T2.out.size)
      have heN := HE2.out.below hal (Nat.le_refl _)
      have hhN := HH2.out.below hal (Nat.le_refl _)
      have ggN := GG2.out.keep hal
      have hbN := HB2.out.keep hal
      clear x0 x1 x2 y0 y1 y2
      have x0 := ggN.cell (j := 0) rfl
      have x1 := ggN.cell (j := 1) rfl
      have x2 := ggN.cell (j := 2) rfl
      have y0 := hbN.cell (j := 0) rfl
      have y1 := hbN.cell (j := 1) rfl
      have y2 := hbN.cell (j := 2) rfl
      have T3 := Lib.hid tN; clear tN
      have HE3 := Lib.hid heN; clear heN
      have HH3 := Lib.hid hhN; clear hhN
      have GG3 := Lib.hid ggN; clear ggN
      have HB3 := Lib.hid hbN; clear hbN
      have K3_3 := Lib.hid bN; clear bN
      clear hq hal
      go_wp2_with fail
      go_at_call 17
      refine ((HAL.out _ HH3.out).1).mono ?_
      rintro e w4 ⟨hq, rfl⟩
      have hal := hq.alloc hq.size (.cells #[.bool (ineg X), .string (imag X)] 28)
      have bN := Blk.new w4 28 [.bool (ineg X), .string (imag X)]
      have tN := T3.out.trans (hal.mono T3.out.size)
      have heN := HE3.out.below hal (Nat.le_refl _)
      have hhN := HH3.out.below hal (Nat.le_refl _)
      have ggN := GG3.out.keep hal
      have hbN := HB3.out.keep hal
      clear x0 x1 x2 y0 y1 y2
      have x0 := ggN.cell (j := 0) rfl
      have x1 := ggN.cell (j := 1) rfl
      have x2 := ggN.cell (j := 2) rfl
      have y0 := hbN.cell (j := 0) rfl
      have y1 := hbN.cell (j := 1) rfl
      have y2 := hbN.cell (j := 2) rfl
      have bk3 := K3_3.out.keep hal
      have T4 := Lib.hid tN; clear tN
      have HE4 := Lib.hid heN; clear heN
      have HH4 := Lib.hid hhN; clear hhN
      have GG4 := Lib.hid ggN; clear ggN
      have HB4 := Lib.hid hbN; clear hbN
      have K3_4 := Lib.hid bk3; clear bk3
      have K4_4 := Lib.hid bN; clear bN
      clear hq hal
      go_wp2_with fail
      go_at_call 16
      refine (CC1.out _ HE4.out).mono ?_
      rintro e w5 ⟨hq, rfl⟩
      have hal := hq.alloc hq.size (.cells #[.bool (ineg Y), .string (imag Y)] 28)
      have bN := Blk.new w5 28 [.bool (ineg Y), .string (imag Y)]
      have tN := T4.out.trans (hal.mono T4.out.size)
      have heN := HE4.out.below hal (Nat.le_refl _)
      have hhN := HH4.out.below hal (Nat.le_refl _)
      have ggN := GG4.out.keep hal
      have hbN := HB4.out.keep hal
      clear x0 x1 x2 y0 y1 y2
      have x0 := ggN.cell (j := 0) rfl
      have x1 := ggN.cell (j := 1) rfl
      have x2 := ggN.cell (j := 2) rfl
      have y0 := hbN.cell (j := 0) rfl
      have y1 := hbN.cell (j := 1) rfl
      have y2 := hbN.cell (j := 2) rfl
      have bk3 := K3_4.out.keep hal
      have bk4 := K4_4.out.keep hal
      have T5 := Lib.hid tN; clear tN
      have HE5 := Lib.hid heN; clear heN
      have HH5 := Lib.hid hhN; clear hhN
      have GG5 := Lib.hid ggN; clear ggN
      have HB5 := Lib.hid hbN; clear hbN
      have K3_5 := Lib.hid bk3; clear bk3
      have K4_5 := Lib.hid bk4; clear bk4
      have K5_5 := Lib.hid bN; clear bN
      clear hq hal
      go_wp2_with fail
      go_at_call 16
      refine ((HAL.out _ HH5.out).2.1).mono ?_
      rintro e w6 ⟨hq, rfl⟩
      have hal := hq.alloc hq.size (.cells #[.bool (ineg Y), .string (imag Y)] 28)
      have bN := Blk.new w6 28 [.bool (ineg Y), .string (imag Y)]
      have tN := T5.out.trans (hal.mono T5.out.size)
      have heN := HE5.out.below hal (Nat.le_refl _)
      have hhN := HH5.out.below hal (Nat.le_refl _)
      have ggN := GG5.out.keep hal
      have hbN := HB5.out.keep hal
      clear x0 x1 x2 y0 y1 y2
      have x0 := ggN.cell (j := 0) rfl
      have x1 := ggN.cell (j := 1) rfl
      have x2 := ggN.cell (j := 2) rfl
      have y0 := hbN.cell (j := 0) rfl
      have y1 := hbN.cell (j := 1) rfl
      have y2 := hbN.cell (j := 2) rfl
      have bk3 := K3_5.out.keep hal
      have bk4 := K4_5.out.keep hal
      have bk5 := K5_5.out.keep hal
      have T6 := Lib.hid tN; clear tN
      have HE6 := Lib.hid heN; clear heN
      have HH6 := Lib.hid hhN; clear hhN
      have GG6 := Lib.hid ggN; clear ggN
      have HB6 := Lib.hid hbN; clear hbN
      have K3_6 := Lib.hid bk3; clear bk3
      have K4_6 := Lib.hid bk4; clear bk4
      have K5_6 := Lib.hid bk5; clear bk5
      have K6_6 := Lib.hid bN; clear bN
      clear hq hal
      go_wp2_with fail
      go_at_call 12
      refine (CO1.out _ HE6.out).mono ?_
      rintro e w7 ⟨hq, rfl⟩
      have hal := hq.alloc hq.size (.cells #[.bool (ineg Z), .string (imag Z)] 28)
      have bN := Blk.new w7 28 [.bool (ineg Z), .string (imag Z)]
      have tN := T6.out.trans (hal.mono T6.out.size)
      have heN := HE6.out.below hal (Nat.le_refl _)
      have hhN := HH6.out.below hal (Nat.le_refl _)
      have ggN := GG6.out.keep hal
      have hbN := HB6.out.keep hal
      clear x0 x1 x2 y0 y1 y2
      have x0 := ggN.cell (j := 0) rfl
      have x1 := ggN.cell (j := 1) rfl
      have x2 := ggN.cell (j := 2) rfl
      have y0 := hbN.cell (j := 0) rfl
      have y1 := hbN.cell (j := 1) rfl
      have y2 := hbN.cell (j := 2) rfl
      have bk3 := K3_6.out.keep hal
      have bk4 := K4_6.out.keep hal
      have bk5 := K5_6.out.keep hal
      have bk6 := K6_6.out.keep hal
      have T7 := Lib.hid tN; clear tN
      have HE7 := Lib.hid heN; clear heN
      have HH7 := Lib.hid hhN; clear hhN
      have GG7 := Lib.hid ggN; clear ggN
      have HB7 := Lib.hid hbN; clear hbN
      have K3_7 := Lib.hid bk3; clear bk3
      have K4_7 := Lib.hid bk4; clear bk4
      have K5_7 := Lib.hid bk5; clear bk5
      have K6_7 := Lib.hid bk6; clear bk6
      have K7_7 := Lib.hid bN; clear bN
      clear hq hal
      go_wp2_with fail
      go_at_call 12
      refine ((HAL.out _ HH7.out).2.2).mono ?_
      rintro e w8 ⟨hq, rfl⟩
      have hal := hq.alloc hq.size (.cells #[.bool (ineg Z), .string (imag Z)] 28)
      have bN := Blk.new w8 28 [.bool (ineg Z), .string (imag Z)]
      have tN := T7.out.trans (hal.mono T7.out.size)
      have heN := HE7.out.below hal (Nat.le_refl _)
      have hhN := HH7.out.below hal (Nat.le_refl _)
      have ggN := GG7.out.keep hal
      have hbN := HB7.out.keep hal
      clear x0 x1 x2 y0 y1 y2
      have x0 := ggN.cell (j := 0) rfl
      have x1 := ggN.cell (j := 1) rfl
      have x2 := ggN.cell (j := 2) rfl
      have y0 := hbN.cell (j := 0) rfl
      have y1 := hbN.cell (j := 1) rfl
      have y2 := hbN.cell (j := 2) rfl
      have bk3 := K3_7.out.keep hal
      have bk4 := K4_7.out.keep hal
      have bk5 := K5_7.out.keep hal
      have bk6 := K6_7.out.keep hal
      have bk7 := K7_7.out.keep hal
      have T8 := Lib.hid tN; clear tN
      have HE8 := Lib.hid heN; clear heN
      have HH8 := Lib.hid hhN; clear hhN
      have GG8 := Lib.hid ggN; clear ggN
      have HB8 := Lib.hid hbN; clear hbN
      have K3_8 := Lib.hid bk3; clear bk3
      have K4_8 := Lib.hid bk4; clear bk4
      have K5_8 := Lib.hid bk5; clear bk5
      have K6_8 := Lib.hid bk6; clear bk6
      have K7_8 := Lib.hid bk7; clear bk7
      have K8_8 := Lib.hid bN; clear bN
      clear hq hal
      have u3 := K3_8.out.cell (j := 0) rfl
      have v3 := K3_8.out.cell (j := 1) rfl
      have u4 := K4_8.out.cell (j := 0) rfl
      have v4 := K4_8.out.cell (j := 1) rfl
      have u5 := K5_8.out.cell (j := 0) rfl
      have v5 := K5_8.out.cell (j := 1) rfl
      have u6 := K6_8.out.cell (j := 0) rfl
      have v6 := K6_8.out.cell (j := 1) rfl
      have u7 := K7_8.out.cell (j := 0) rfl
      have v7 := K7_8.out.cell (j := 1) rfl
      have u8 := K8_8.out.cell (j := 0) rfl
      have v8 := K8_8.out.cell (j := 1) rfl
      clear x0 x1 x2 y0 y1 y2
      go_wp2_with fail
      go_at_call 10
      refine (HAW.out _).mono ?_
      rintro e w9 ⟨hq, rfl⟩
      have sF := T8.out.trans (hq.mono T8.out.size)
      have SF := Lib.hid sF; clear sF
      clear hq
      go_wp2_with fail
      go_ret
      exact ⟨SF.out, rfl⟩
end Go.Proofs.Ythpgeeaccmgbkaa

