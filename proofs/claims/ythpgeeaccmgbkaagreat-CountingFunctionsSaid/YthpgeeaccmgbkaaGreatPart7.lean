/- Contracts and plain laws of several functions, one after the other: EdgeA, TabB, CloneI, Ints, CmpP, Col, Marks, Round, Canon, RoundW. -/
import Derived.Laws.StructEq
import Derived.Deep.RegionHeld3
import Derived.Deep.QuietTactic
import Derived.Lib.SliceRun
import Derived.RangeFuncNested
import Derived.RangeFuncBound
import Derived.RangeFuncCalls
import Derived.RangeFuncLeaves
import Derived.RangeFuncBox
import Derived.RangeFuncOne
import Derived.Shelf.Abstract
import Derived.Shelf.RegionOpen
import Derived.WalkKit
import Derived.OwnWalkIn
import Derived.TacticsInMore
import Derived.LoopNIn
import Derived.LoopIn
import Derived.Maps.AppendAt
import Derived.OrdersIn
import Derived.Test.YthpgeeaccmgbkaaGreatCheck
import Derived.Test.YthpgeeaccmgbkaaGreatPart14
import Derived.Test.YthpgeeaccmgbkaaGreatPart9
/- The contracts of slices.Equal, slices.Clone and slices.Compact at edges; nothing that was there is changed. -/
namespace Go.Proofs.YthpgeeaccmgbkaaGreat
open Go.RowKit

/-- The cells of an edge of a slice, in a world in which nothing of it has changed. -/
theorem edge_cells {w w' : World} {B b off : Nat} {es : List E3} {k : Nat} {e : E3} (hce : ∀ (j : Nat) (u : Value), (ce es)[j]? = some u → w.cell? ⟨b, off + j, none⟩ = some u) (hb : Below B w w') (hlt : b < B) (h : es[k]? = some e) :
  w'.cell? ⟨b, off + k * 3, none⟩ = some (.int .i64 e.f) ∧ w'.cell? ⟨b, off + k * 3 + 1, none⟩ = some (.int .i64 e.l) ∧ w'.cell? ⟨b, off + k * 3 + 2, none⟩ = some (.int .i64 e.t) :=
 ⟨(hb.cell (p := ⟨b, off + k * 3, none⟩) hlt).trans (hce (k * 3) _ (ce_get (j := 0) h rfl)), (hb.cell (p := ⟨b, off + k * 3 + 1, none⟩) hlt).trans (hce (k * 3 + 1) _ (ce_get (j := 1) h rfl)), (hb.cell (p := ⟨b, off + k * 3 + 2, none⟩) hlt).trans (hce (k * 3 + 2) _ (ce_get (j := 2) h rfl))⟩

end Go.Proofs.YthpgeeaccmgbkaaGreat

/- Tables of integers in memory. -/
namespace Go.Proofs.YthpgeeaccmgbkaaGreat
open Go.RowKit

/-- A row, a table in blocks from B on. -/
def RowB (B : Nat) (w : World) (v : Value) (n : Nat) (xs : List Value) : Prop := Row w v n xs ∧ ∀ k, v.ownBlock = some k → B ≤ k
def TabB (B : Nat) (w : World) (v : Value) (rows : List (List Int)) : Prop :=
 ∃ rvs : List Value, rvs.length = rows.length ∧ RowB B w v rows.length rvs ∧ ∀ (i : Nat) (r : List Int), rows[i]? = some r → ∃ rv : Value, rvs[i]? = some rv ∧ RowB B w rv r.length (civ r)
theorem TabB.tab {B : Nat} {w : World} {v : Value} {rows : List (List Int)} (h : TabB B w v rows) : Tab w v rows := by
 obtain ⟨rvs, h1, h2, h3⟩ := h
 exact ⟨rvs, h1, h2.1, fun i r hr => by obtain ⟨rv, h4, h5⟩ := h3 i r hr; exact ⟨rv, h4, h5.1⟩⟩
theorem rowB_put {B : Nat} {w : World} {v : Value} {n : Nat} {xs : List Value} (h : RowB B w v n xs) {d : Nat} (hd : d < B) (j : Nat) (u : Value) : RowB B (w.setCell ⟨d, j, none⟩ u) v n xs := by
 refine ⟨?_, h.2⟩
 rcases h.1 with h1 | ⟨b, off, cap, rfl, h1, h2, h3, h4⟩
 ·
  exact .inl h1
 ·
  have hb : B ≤ b := h.2 b rfl
  refine .inr ⟨b, off, cap, rfl, h1, h2, by simpa using h3, fun i x hx => ?_⟩
  rw [World.cell?_setCell_far _ _ _ _ (fun e => by simp at e; omega)]
  exact h4 i x hx
theorem TabB.put {B : Nat} {w : World} {v : Value} {rows : List (List Int)} (h : TabB B w v rows) {d : Nat} (hd : d < B) (j : Nat) (u : Value) : TabB B (w.setCell ⟨d, j, none⟩ u) v rows := by
 obtain ⟨rvs, h1, h2, h3⟩ := h
 exact ⟨rvs, h1, rowB_put h2 hd j u, fun i r hr => by obtain ⟨rv, h4, h5⟩ := h3 i r hr; exact ⟨rv, h4, rowB_put h5 hd j u⟩⟩
theorem TabB.below {B C : Nat} {w w' : World} {v : Value} {rows : List (List Int)} (h : TabB B w v rows) (k : Below C w w') (hC : w.heap.size ≤ C) : TabB B w' v rows := by
 obtain ⟨rvs, h1, h2, h3⟩ := h
 exact ⟨rvs, h1, ⟨h2.1.below k hC, h2.2⟩, fun i r hr => by obtain ⟨rv, h4, h5⟩ := h3 i r hr; exact ⟨rv, h4, h5.1.below k hC, h5.2⟩⟩
/-- The rows that lie in memory. -/
def RowsAt (B : Nat) (w : World) (es : List E3) (S : Nat) (p : Int → Bool) (k : Nat) (rvs : List Value) : Prop :=
 ∀ i, i ≤ k → ∃ b, B ≤ b ∧ rvs[i]? = some (.slice (some ⟨b, 0, none⟩) S S) ∧ Blk w b 28 (civ (rowK es S p i))
theorem RowsAt.keep {B : Nat} {w w' : World} {es : List E3} {S : Nat} {p : Int → Bool} {k : Nat} {rvs : List Value} (h : RowsAt B w es S p k rvs) (hq : Below w.heap.size w w') : RowsAt B w' es S p k rvs :=
 fun i hi => by obtain ⟨b, h0, h1, h2⟩ := h i hi; exact ⟨b, h0, h1, h2.keep hq⟩
theorem RowsAt.grown {B : Nat} {w w' : World} {es : List E3} {S : Nat} {p : Int → Bool} {k : Nat} {rvs : List Value} {row : Option Nat} (h : RowsAt B w es S p k rvs) (hg : w.grownBy w' row) (hne : ∀ b ys, Blk w b 28 ys → row ≠ some b) : RowsAt B w' es S p k rvs :=
 fun i hi => by obtain ⟨b, h0, h1, h2⟩ := h i hi; exact ⟨b, h0, h1, h2.grown hg (hne b _ h2)⟩
theorem RowsAt.snoc {B : Nat} {w : World} {es : List E3} {S : Nat} {p : Int → Bool} {k b : Nat} {rvs : List Value} (h : RowsAt B w es S p k rvs) (hl : rvs.length = k + 1) (hB : B ≤ b) (hb : Blk w b 28 (civ (rowK es S p (k + 1)))) : RowsAt B w es S p (k + 1) (rvs ++ [.slice (some ⟨b, 0, none⟩) S S]) := fun i hi => by
 by_cases h1 : i ≤ k
 ·
  obtain ⟨b', h0, h2, h3⟩ := h i h1
  exact ⟨b', h0, by rw [List.getElem?_append_left (by omega)]; exact h2, h3⟩
 ·
  obtain rfl : i = k + 1 := by omega
  exact ⟨b, hB, by rw [List.getElem?_append_right (by omega), hl]; simp, hb⟩
theorem infoRow : (Tryz.prog.info? 32).map (fun i => (i.zero, i.size, i.bytes)) = some (some (.slice none 0 0), 1, 24) := by kernel_rfl

end Go.Proofs.YthpgeeaccmgbkaaGreat

/- slices.Clone at integers. -/
namespace Go.Proofs.YthpgeeaccmgbkaaGreat
open Go.RowKit

/-- A slice of integers of its own. -/
def IntsRet (w : World) (l : List Int) (e : Ending) (w' : World) : Prop :=
 Below w.heap.size w w' ∧ ∃ v, e = .returned v ∧ w'.ownsRow w.heap.size 28 2 v l.length (civ l)
set_option maxRecDepth 100000 in
set_option maxHeartbeats 3200000 in
theorem cloneI_any (l : List Int) (v : Value) (w : World) (hr : Row w v l.length (civ l)) (hlen : l.length ≤ 1000000000) :
  Calls Tryz.prog 53 #[v] w (IntsRet w l) := by
 rcases hr with ⟨rfl, h1, h2⟩ | ⟨b, off, cap, rfl, h1, h2, h3, h4⟩
 ·
  have hd : l = [] := List.length_eq_zero_iff.1 h1
  subst hd
  clear h1 h2
  have hnil := fun (wx : World) => Lib.run_eql_slice_nil (P := Tryz.prog) wx 32 28 none 0 0 0 0 Tryz.underlying32
  simp only [Option.isNone_none] at hnil
  go_enter Tryz.func53, Tryz.ntmps53
  go_wp2_with fail
  go_ret
  exact ⟨Below.refl _ _, .slice none 0 0, rfl, World.ownsRow_nil _ _ _ _⟩
 ·
  have hnil := fun (wx : World) => Lib.run_eql_slice_nil (P := Tryz.prog) wx 32 28 (some ⟨b, off, none⟩) l.length cap 0 0 Tryz.underlying32
  simp only [Option.isNone_some] at hnil
  obtain ⟨i0, hi, hz0, hz1, hz2⟩ := info_parts infoZ
  have hm0 := World.ownsRow_made w (#[] : Array Value) 0 (base := w.heap.size) (e := 28) (size := 2) (Nat.le_refl _) (Nat.zero_le _) rfl
  have hc : ∀ (j : Nat) (u : Value), (civ l)[j]? = some u → (w.alloc (.cells #[] 28)).cell? ((⟨b, off, none⟩ : Addr).add j) = some u := by
   intro j u hu
   have e : (⟨b, off, none⟩ : Addr).add j = ⟨b, off + j, none⟩ := by
    unfold Addr.add
    split
    ·
     rename_i h0; subst h0; rfl
    ·
     rfl
   rw [e, below_new w _ h3]; exact h4 j u hu
  have h1c : ∀ u ∈ civ l, u.oneCell' = true := by
   intro u hu
   simp only [civ, List.mem_flatMap] at hu
   obtain ⟨e, _, hu⟩ := hu
   simp only [List.mem_cons, List.not_mem_nil, or_false] at hu
   rcases hu with rfl | rfl <;> rfl
  have hcl := civ_length l
  have HM0 := Lib.hid hm0; clear hm0
  have HC := Lib.hid hc; clear hc
  have H1C := Lib.hid h1c; clear h1c
  have HCL := Lib.hid hcl; clear hcl
  clear h4
  go_enter Tryz.func53, Tryz.ntmps53
  go_wp2_with (at_builtin; refine wpList_append_own _ rfl (.tmp 5) (.tmp 6) 32 rfl w.heap.size 28 i0 _ 2 24 Tryz.underlying32 hi hz0 hz1 hz2 rfl (by decide) _ _ _ rfl HM0.out _ _ _ (civ l) rfl HCL.out HC.out H1C.out (by unfold maxLen; omega) (by omega) (by simp) ?_; intro v' w1 hown hg hnn)
  rw [Nat.zero_add, List.nil_append] at hown
  have HO := Lib.hid hown; clear hown
  have HG := Lib.hid hg; clear hg
  clear hnn
  go_wp2_with fail
  go_ret
  exact ⟨((Below.refl w.heap.size w).alloc (Nat.le_refl _) _).grown HG.out (by simp) (fun k hk => by cases hk; exact Nat.le_refl _), v', rfl, HO.out⟩
/-- An owned slice of integers as a block. -/
theorem own_blkI {w : World} {base n : Nat} {e : TypeId} {v : Value} {l : List Int} (h : w.ownsRow base e 2 v n (civ l)) (hn : n ≠ 0) (hl : l.length = n) : ∃ g cap rest, v = .slice (some ⟨g, 0, none⟩) n cap ∧ base ≤ g ∧ Blk w g e (civ l ++ rest) ∧ n ≤ cap ∧ cap ≤ maxLen := by
 rcases h.2 with ⟨_, h0⟩ | ⟨g, cap, cur, hv, h1, h2, h3, h4, h5, h6⟩
 ·
  exact absurd h0 hn
 ·
  refine ⟨g, cap, cur.toList.drop (n * 2), hv, h1, ?_, h3, h4⟩
  have e1 : civ l ++ cur.toList.drop (n * 2) = cur.toList := by
   rw [← h6, List.take_append_drop]
  rw [e1]
  unfold Blk; rw [Array.toArray_toList]; exact h2
/-- A block's beginning as a slice. -/
theorem blk_rowI {w : World} {b cap : Nat} {l : List Int} {rest : List Value} (h : Blk w b 28 (civ l ++ rest)) (h1 : l.length ≤ cap) (h2 : cap ≤ maxLen) : Row w (.slice (some ⟨b, 0, none⟩) l.length cap) l.length (civ l) := by
 have h3 := Row.ofBlk h (m := l.length) (cap := cap) h1 h2 (civ l).length
 rwa [List.take_left] at h3
end Go.Proofs.YthpgeeaccmgbkaaGreat

/- groovelaw22.ints. -/
namespace Go.Proofs.YthpgeeaccmgbkaaGreat
open Go.RowKit

theorem civ_snoc (l : List Int) (z : Int) : civ (l ++ [z]) = civ l ++ [.bool (ineg z), .string (imag z)] := by simp [civ]
set_option maxRecDepth 100000 in
set_option maxHeartbeats 3200000 in
theorem ints_any (l : List Int) (v : Value) (w : World) (hr : Row w v l.length (ci l)) (hl : l.length ≤ 100000) (hs : ∀ x ∈ l, -9223372036854775808 ≤ x ∧ x ≤ 9223372036854775807) :
  Calls Tryz.prog 30 #[v] w (IntsRet w l) := by
 obtain ⟨va, vc, rfl, hle⟩ := hr.slice
 obtain ⟨i0, hi, hz0, hz1', hz2'⟩ := info_parts infoZ
 obtain ⟨n, hn⟩ : ∃ n, n = l.length := ⟨_, rfl⟩
 have hof := fun x (hx : x ∈ l) w' => iof_any x w' (hs x hx).1 (hs x hx).2
 rw [← hn] at hr hle hl
 have HR := Lib.hid hr; clear hr
 have HN := Lib.hid hn; clear hn
 have HOF := Lib.hid hof; clear hof
 clear hs
 go_enter Tryz.func30, Tryz.ntmps30
 rw [← HN.out]
 go_wp2_with fail
 go_loopw [3, 5, 8] (fun u _ i wr => ∃ k : Nat, k ≤ n ∧ i = .int .i64 k ∧ wr.ownsRow w.heap.size 28 2 u k (civ (l.take k)) ∧ Below w.heap.size w wr) (fun _ _ i _ => n - (intOf i).toNat)
 case atStart => exact ⟨0, Nat.zero_le _, rfl, World.ownsRow_nil _ _ _ _, Below.refl _ _⟩
 case round =>
  obtain ⟨k, hk, rfl, hown, hbel⟩ := hrel
  have hsz : w.heap.size ≤ wr.heap.size := hbel.size
  by_cases hlt : k < n
  ·
   have hkl : k < l.length := by rw [← HN.out]; exact hlt
   have hget : l[k]? = some (l[k]'hkl) := List.getElem?_eq_getElem _
   obtain ⟨x, hx⟩ : ∃ x, x = l[k]'hkl := ⟨_, rfl⟩
   rw [← hx] at hget
   have hofx := HOF.out x (by rw [hx]; exact List.getElem_mem _)
   have hz2 : civ (l.take (k + 1)) = civ (l.take k) ++ [.bool (ineg x), .string (imag x)] := by
    rw [List.take_add_one, hget]; exact civ_snoc _ _
   obtain ⟨b1, o1, rfl, hb1, hbc⟩ := HR.out.at_ (by omega)
   have hbj : wr.cell? ⟨b1, o1 + k, none⟩ = some (.int .i64 x) := (hbel.cell (p := ⟨b1, o1 + k, none⟩) hb1).trans (hbc k _ (by simp [ci, hget]))
   obtain ⟨a, cap, rfl⟩ := own_slice hown
   have hix1 : (0 : Int) ≤ (k : Int) := by omega
   have hix2 : (k : Int) < (n : Int) := by omega
   have HO := Lib.hid hown; clear hown
   have HB := Lib.hid hbel; clear hbel
   have HZ2 := Lib.hid hz2; clear hz2
   have HOFX := Lib.hid hofx; clear hofx
   clear hx hget hbc hkl
   go_wp2_with fail
   go_at_call 28
   refine (HOFX.out _).mono ?_
   rintro e w2 ⟨hq2, rfl⟩
   have ho2 := own_below HO.out hq2
   have hb2 := HB.out.trans (hq2.mono HB.out.size)
   have hsz2 : w.heap.size ≤ w2.heap.size := hb2.size
   have HO2 := Lib.hid ho2; clear ho2
   have HB2 := Lib.hid hb2; clear hb2
   clear hq2
   go_wp2_with (at_builtin; refine wpList_append_lies _ rfl (.tmp 12) (.tmp 15) 32 rfl w.heap.size 28 i0 _ 2 24 Tryz.underlying32 hi hz0 hz1' hz2' rfl (by decide) _ _ _ rfl (HO2.out.alloc _) _ 1 1 [.bool (ineg x), .string (imag x)] rfl rfl (World.news_of_block (heap_alloc_new _ _)) (by simp [Value.oneCell']) (by omega) (by unfold maxLen; omega) (by omega) (by simp; omega) _ rfl ?_; intro g cap' w3 hown' hg hat hlt'; have HG := Lib.hid hg; clear hg; have HO4 := Lib.hid hown'; clear hown'; have HAT := Lib.hid hat; clear hat)
   go_roundw
   case rel =>
    refine ⟨k + 1, by omega, by go_num, ?_, (HB2.out.alloc hsz2 _).grown HG.out (by simp; omega) (fun j hj => (HO2.out.lt j hj).1)⟩
    rw [HZ2.out]; exact HO4.out
   case measure => simp [intOf]; omega
  ·
   obtain rfl : k = n := by omega
   have htk : l.take k = l := List.take_of_length_le (by rw [← HN.out]; exact Nat.le_refl _)
   rw [htk] at hown
   have HO := Lib.hid hown; clear hown
   have HB := Lib.hid hbel; clear hbel
   go_wp2_with fail
   go_ret
   exact ⟨HB.out, _, rfl, by rw [← HN.out]; exact HO.out⟩
end Go.Proofs.YthpgeeaccmgbkaaGreat

/- The order of edges, in plain Lean. -/
namespace Go.Proofs.YthpgeeaccmgbkaaGreat
open Go.RowKit

theorem cmpE_lt2 (a b : E3) : cmpE a b < 0 ↔ a.f < b.f ∨ (a.f = b.f ∧ (a.l < b.l ∨ (a.l = b.l ∧ a.t < b.t))) := by
 have h : ∀ x y : Int, (cmpI x y = 0 ↔ x = y) ∧ (cmpI x y < 0 ↔ x < y) := by
  intro x y
  unfold cmpI
  by_cases h1 : x < y
  ·
   simp [h1]; omega
  ·
   by_cases h2 : y < x
   ·
    simp [h1, h2]; omega
   ·
    simp [h1, h2]; omega
 have e : cmpE a b = if cmpI a.f b.f = 0 then (if cmpI a.l b.l = 0 then (if cmpI a.t b.t = 0 then 0 else cmpI a.t b.t) else cmpI a.l b.l) else cmpI a.f b.f := rfl
 rw [e]
 by_cases h1 : cmpI a.f b.f = 0
 ·
  rw [if_pos h1]
  have h1' := (h _ _).1.1 h1
  by_cases h2 : cmpI a.l b.l = 0
  ·
   rw [if_pos h2]
   have h2' := (h _ _).1.1 h2
   by_cases h3 : cmpI a.t b.t = 0
   ·
    rw [if_pos h3]
    have h3' := (h _ _).1.1 h3
    omega
   ·
    rw [if_neg h3, (h _ _).2]; omega
  ·
   rw [if_neg h2, (h _ _).2]
   have := mt (h a.l b.l).1.2 h2
   omega
 ·
  rw [if_neg h1, (h _ _).2]
  have := mt (h a.f b.f).1.2 h1
  omega
end Go.Proofs.YthpgeeaccmgbkaaGreat

/- matrix.column: an iterator over a column. -/
namespace Go.Proofs.YthpgeeaccmgbkaaGreat
open Go.RowKit Go.Shelf

attribute [local go_sem] Oper.semAt_some

/-- The first j elements of column k, with their indices. -/
def colL (rows : List (List Int)) (k : Nat) (j : Nat) : List (Nat × Int) := (List.range j).map fun i => (i, (rows.getD i []).getD k 0)
theorem colL_length (rows : List (List Int)) (k j : Nat) : (colL rows k j).length = j := by simp [colL]

/-- What a round keeps: all blocks below n₀, and the two boxes of the iterator. -/
structure cKpS (n₀ Bg Bs : Nat) (X Y : World) : Prop where
 bel : Below n₀ X Y
 g : Y.heap[Bg]? = X.heap[Bg]?
 s : Y.heap[Bs]? = X.heap[Bs]?
theorem cKpS.refl (n₀ Bg Bs : Nat) (X : World) : cKpS n₀ Bg Bs X X := ⟨Below.refl _ _, rfl, rfl⟩
theorem cKpS.trans {n₀ Bg Bs : Nat} {X Y Z : World} (h : cKpS n₀ Bg Bs X Y) (k : cKpS n₀ Bg Bs Y Z) : cKpS n₀ Bg Bs X Z := ⟨h.bel.trans k.bel, k.g.trans h.g, k.s.trans h.s⟩
theorem cKpS.alloc {n₀ Bg Bs : Nat} {X Y : World} (h : cKpS n₀ Bg Bs X Y) (h0 : n₀ ≤ Y.heap.size) (h1 : Bg < Y.heap.size) (h2 : Bs < Y.heap.size) (o : Obj) : cKpS n₀ Bg Bs X (Y.alloc o) :=
 ⟨h.bel.alloc h0 o, (Below.heap_alloc _ _ _ h1).trans h.g, (Below.heap_alloc _ _ _ h2).trans h.s⟩
theorem ckpS_b {n₀ Bg Bs : Nat} {w : World} (hn : n₀ ≤ w.heap.size) (h1 : Bg < w.heap.size) (h2 : Bs < w.heap.size) (W : World) (l : Nat) (o o' : Obj) (hl : w.heap.size ≤ l) (h : W.heap[l]? = some o) (_ : o.isCells = false) (_ : o.isWalk = false) : cKpS n₀ Bg Bs W (W.putObj l o') :=
 ⟨(Below.refl n₀ W).grown (grownBy_putObj' W l o') (by have := (Array.getElem?_eq_some_iff.1 h).1; omega) (fun k e => by cases e; omega), World.putObj_heap_other (by omega), World.putObj_heap_other (by omega)⟩

set_option maxRecDepth 100000 in
set_option maxHeartbeats 2000000 in
theorem column1_in (F : Fence) (n : Nat) (h6 : F.fn 157) (hro : F.round = none) (hn : 1 ≤ n) (l Bm Bk k : Nat) (rows : List (List Int)) (v : Value) (B0 : Nat) (w0 : World) (hT : Tab w0 v rows) (hk : ∀ r ∈ rows, k < r.length) {α : Type} (en : α → Nat × Int) (L : List α) (hL : L.map en = colL rows k rows.length) (J Jx : List α → World → Prop)
  (hJ : AbidesFrom B0 J)
  (hY : ∀ pre x W, J pre W → pre.length < rows.length → YieldAt F (n - 1) Tryz.prog l #[.int .i64 (((en x).1 : Nat) : Int), .agg #[.bool (ineg (en x).2), .string (imag (en x).2)]] W fun e W' =>
   (e = .returned (.bool true) ∧ J (pre ++ [x]) W' ∧ cKpS w0.heap.size Bm Bk W W') ∨ (e = .returned (.bool false) ∧ Jx (pre ++ [x]) W'))
  (W : World) (hB0 : B0 ≤ W.heap.size) (h0W : Below w0.heap.size w0 W) (hBm : Bm < W.heap.size) (hBk : Bk < W.heap.size) (hm : W.cell? ⟨Bm, 0, none⟩ = some v) (hs : W.cell? ⟨Bk, 0, none⟩ = some (.int .i64 (k : Int))) (h0 : J [] W) :
  CallsIn F n Tryz.prog 157 #[.func (.yield l) #[] #[], .pointer (some ⟨Bm, 0, none⟩), .pointer (some ⟨Bk, 0, none⟩)] W fun e W' => (∃ v, e = .returned v) ∧
   ((∃ ys, ys = L ∧ J ys W') ∨ (∃ pre, True ∧ Jx pre W')) := by
 obtain ⟨rvs, hl, hr, hrr⟩ := hT
 obtain ⟨a, cap, rfl, hcap⟩ := hr.slice
 obtain ⟨N, hN⟩ : ∃ N, N = rows.length := ⟨_, rfl⟩
 have hLl : L.length = N := by rw [hN, ← colL_length rows k rows.length, ← hL, List.length_map]
 have hLg : ∀ j, j < N → ∀ x, L[j]? = some x → en x = (j, (rows.getD j []).getD k 0) := fun j hj x hx => by
  have h1 : (L.map en)[j]? = some (en x) := by rw [List.getElem?_map, hx]; rfl
  rw [hL] at h1
  simp only [colL, List.getElem?_map] at h1
  rw [List.getElem?_range (by omega)] at h1
  exact (Option.some.inj h1).symm
 rw [← hN] at hr hl hcap hm hY
 have HN := Lib.hid hN; clear hN
 refine callsIn_of_wp Tryz.func157 rfl h6 ?_ hro
 simp only [Tryz.ntmps157, List.size_toArray, List.length_cons, List.length_nil, Nat.reduceAdd, Nat.reduceSub, Array.replicate_succ, Array.replicate_zero, List.push_toArray, List.append_toArray, List.nil_append, List.cons_append]
 gi_wp2
 clear hm
 gi_loopw [8] (fun i wr => ∃ j : Nat, j ≤ N ∧ i = .int .i64 j ∧ J (L.take j) wr ∧ cKpS w0.heap.size Bm Bk W wr)
  (fun i _ => N - (intOf i).toNat)
 case atStart => exact ⟨0, Nat.zero_le _, rfl, by rw [List.take_zero]; exact h0, cKpS.refl _ _ _ _⟩
 case round =>
  obtain ⟨j, hj, rfl, hJs, hnx⟩ := hrel
  have hsr := (World.cell?_of_block (a := ⟨Bk, 0, none⟩) hnx.s).trans hs
  have hbw := h0W.trans hnx.bel
  by_cases hlt : j < N
  ·
   obtain ⟨b, off, rfl, hbl, hce⟩ := hr.at_ (by omega)
   have hrj : rows[j]? = some (rows[j]'(by rw [← HN.out]; exact hlt)) := List.getElem?_eq_getElem _
   obtain ⟨r, hrd⟩ : ∃ r, r = rows[j]'(by rw [← HN.out]; exact hlt) := ⟨_, rfl⟩
   rw [← hrd] at hrj
   obtain ⟨rv, hrv, hrow⟩ := hrr j r hrj
   obtain ⟨ra, rc, rfl, hrl⟩ := hrow.slice
   have hkr : k < r.length := hk r (List.mem_of_getElem? hrj)
   obtain ⟨br, offr, rfl, hbr, hcr⟩ := hrow.at_ (by omega)
   have gz : r[k]? = some (r[k]'hkr) := List.getElem?_eq_getElem _
   obtain ⟨z, hz⟩ : ∃ z, z = r[k]'hkr := ⟨_, rfl⟩
   rw [← hz] at gz
   have hjL : j < L.length := by rw [hLl]; exact hlt
   obtain ⟨x, hx⟩ : ∃ x, x = L[j]'hjL := ⟨_, rfl⟩
   have hex : en x = (j, z) := by
    have e1 : (rows.getD j []).getD k 0 = z := by
     rw [show rows.getD j [] = r by rw [List.getD_eq_getElem?_getD, hrj]; rfl, List.getD_eq_getElem?_getD, gz]; rfl
    rw [hLg j hlt x (by rw [hx]; exact List.getElem?_eq_getElem hjL), e1]
   have hsucc : L.take (j + 1) = L.take j ++ [x] := by rw [List.take_succ_eq_append_getElem hjL, hx]
   have c0 := (hbw.cell (p := ⟨b, off + j, none⟩) hbl).trans (hce _ _ hrv)
   obtain ⟨z0, z1⟩ := int_cells hcr hbw hbr gz
   obtain ⟨rl, hrl2⟩ : ∃ rl, rl = r.length := ⟨_, rfl⟩
   rw [← hrl2] at c0 hkr hrl
   obtain ⟨fn, tmps, assign, body, hy, hR⟩ := hY _ x _ hJs (by rw [List.length_take]; omega)
   rw [hex] at hy
   dsimp only at hy
   have hix : (0 : Int) ≤ (j : Int) := by omega
   have hix2 : (j : Int) < (N : Int) := by omega
   have hiy : (0 : Int) ≤ (k : Int) := by omega
   have hiy2 : (k : Int) < (rl : Int) := by omega
   have HSU := Lib.hid hsucc; clear hsucc hex hx hjL hrl2 hz gz hcr hrow hrv hrj hrd hce
   gi_wp2
   refine hR.mono ?_
   rintro e' W3 (⟨rfl, hJ3, hk3⟩ | ⟨rfl, hJx3⟩)
   ·
    gi_wp2
    go_roundw
    case rel => exact ⟨j + 1, by omega, by go_num, by rw [HSU.out]; exact hJ3, hnx.trans hk3⟩
    case measure => simp [intOf]; omega
   ·
    gi_wp2
    refine bodyPost_ret (results_none rfl _ _ _) rfl ?_
    exact ⟨⟨_, rfl⟩, .inr ⟨_, trivial, hJx3⟩⟩
  ·
   obtain rfl : j = N := by omega
   gi_wp2
   go_end0
   exact ⟨⟨_, rfl⟩, .inl ⟨_, List.take_of_length_le (by omega), hJs⟩⟩
set_option maxHeartbeats 1000000 in
theorem column_in (F : Fence) (n : Nat) (h5 : F.fn 132) (hro : F.round = none) (a : Option Addr) (m c : Nat) (k : Nat) (w : World) :
  CallsIn F n Tryz.prog 132 #[.slice a m c, .int .i64 (k : Int)] w fun e w' => e = .returned (.func (.func 157) #[] #[.pointer (some ⟨w.heap.size, 0, none⟩), .pointer (some ⟨w.heap.size + 1, 0, none⟩)]) ∧ w' = (w.alloc (.cells #[.slice a m c] 70)).alloc (.cells #[.int .i64 (k : Int)] 3) := by
 refine callsIn_of_wp Tryz.func132 rfl h5 ?_ hro
 simp only [Tryz.ntmps132, List.size_toArray, List.length_cons, List.length_nil, Nat.reduceAdd, Nat.reduceSub, Array.replicate_succ, Array.replicate_zero, List.push_toArray, List.append_toArray, List.nil_append, List.cons_append]
 gi_wp2
 go_ret
 exact ⟨rfl, rfl⟩
/-- What matrix.column hands back yields the column, in order. -/
theorem column_stops (F : Fence) (n : Nat) (h6 : F.fn 157) (hro : F.round = none) (hn : 1 ≤ n) (Bm Bk k : Nat) (rows : List (List Int)) (v : Value) (w0 w : World) (hT : Tab w0 v rows) (hk : ∀ r ∈ rows, k < r.length) {α : Type} (en : α → Nat × Int) (L : List α) (hL : L.map en = colL rows k rows.length) (h0w : Below w0.heap.size w0 w)
  (hBm : Bm < w.heap.size) (hBk : Bk < w.heap.size) (hm : w.cell? ⟨Bm, 0, none⟩ = some v) (hs : w.cell? ⟨Bk, 0, none⟩ = some (.int .i64 (k : Int))) :
  SeqStopsK F n Tryz.prog 157 #[.pointer (some ⟨Bm, 0, none⟩), .pointer (some ⟨Bk, 0, none⟩)] (fun x : α => #[Value.int .i64 (((en x).1 : Nat) : Int), .agg #[.bool (ineg (en x).2), .string (imag (en x).2)]]) (cKpS w0.heap.size Bm Bk) (fun ys => ys = L) (fun _ => True) rows.length w :=
 fun l J Jx W hW hJ _ hY h0 =>
  column1_in F n h6 hro hn l Bm Bk k rows v W.heap.size w0 hT hk en L hL J Jx hJ hY W (Nat.le_refl _) (h0w.trans (hW.mono h0w.size)) (Nat.lt_of_lt_of_le hBm hW.size) (Nat.lt_of_lt_of_le hBk hW.size) ((hW.cell (p := ⟨Bm, 0, none⟩) hBm).trans hm) ((hW.cell (p := ⟨Bk, 0, none⟩) hBk).trans hs) h0
end Go.Proofs.YthpgeeaccmgbkaaGreat

/- Marks of loops over functions: blocks that hold no calls; what an owner keeps. -/
namespace Go.Proofs.YthpgeeaccmgbkaaGreat
open Go.RowKit Go.Shelf

def mkD (D : Nat) : Deferred := { target := .collected D, args := #[] }
theorem blk_ownF {B b : Nat} {t : TypeId} {xs : List Value} : OwnFrom B (fun (_ : Unit) W => Blk W b t xs) := by
 intro s X Y row hs hg hr
 refine hs.of_block (hg.block b hs.lt (fun e => ?_))
 obtain ⟨_, o, ho, hc⟩ := hr b e.symm
 unfold Blk at hs
 rw [hs] at ho
 cases ho; cases hc
/-- Leaving with marks whose blocks hold no calls. -/
theorem leaves_marks {F : Fence} {n : Nat} {P : Program} {fn : Func} {tmps : Array Value} {R : Ending → World → Prop} (B : Nat) (Kx : World → Prop)
  (hst : ∀ W D, B ≤ D → Kx W → W.heap[D]? = some (.deferred (some [])) → Kx (W.putObj D (.deferred none))) (hfin : ∀ W, Kx W → LeavesInM F n P fn tmps R [] .returning W) :
  ∀ (Ds : List Nat) (W : World), Kx W → (∀ D ∈ Ds, W.heap[D]? = some (.deferred (some []))) → Ds.Nodup → (∀ D ∈ Ds, B ≤ D) → LeavesInM F n P fn tmps R (Ds.map mkD) .returning W
 | [], W, hk, _, _, _ => hfin W hk
 | D :: Ds, W, hk, hD, hnd, hB =>
  by
  rw [List.nodup_cons] at hnd
  refine ⟨by simp, .inl ⟨D, _, rfl, run_takeDeferred (hD D (by simp)), ?_⟩⟩
  refine leaves_marks B Kx hst hfin Ds _ (hst W D (hB D (by simp)) hk (hD D (by simp))) (fun D' hD' => ?_) hnd.2 (fun D' hD' => hB D' (by simp [hD']))
  have hne : D' ≠ D := fun e => hnd.1 (e ▸ hD')
  exact (World.putObj_heap_other hne).trans (hD D' (by simp [hD']))
/-- A block whose cells hang on the state. -/
theorem blk_ownS {β : Type} {B b : Nat} {t : TypeId} (f : β → List Value) : OwnFrom B (fun (s : β) W => Blk W b t (f s)) := by
 intro s X Y row hs hg hr
 exact blk_ownF (B := B) () X Y row hs hg hr
end Go.Proofs.YthpgeeaccmgbkaaGreat

/- A region that draws its order, in a round of a loop over a function: as outside of it. -/
namespace Go.Proofs.YthpgeeaccmgbkaaGreat
open Go.RowKit

def noDefer (o : Oper) : Bool := match o.op with | .defer _ => false | _ => true
theorem wpOpsIn_of_wpOps {l n : Nat} {P : Program} {ops : Array Oper} {Q : Exit → Act → World → Prop} (hno : ¬ LetsOut Q) (hnd : ∀ (i : Nat) (o : Oper), ops[i]? = some o → noDefer o = true) :
  ∀ (L : List Nat) (a : Act) (w : World), wpOps P ops Q L a w → wpOpsIn (Fence.wide.inRound l) n P ops Q L a w
 | [], _, _, h => h
 | i :: rest, a, w, h =>
  by
  simp only [wpOps] at h
  simp only [wpOpsIn]
  cases hi : ops[i]? with
  | none => simp only [hi] at h ⊢; exact wpOpsIn_of_wpOps hno hnd rest a w h
  | some o =>
   simp only [hi] at h ⊢
   split
   ·
    rename_i hw
    rw [if_pos hw] at h
    rcases h with h | ⟨_, h⟩
    case inr => exact absurd h hno
    refine ⟨fun _ _ => trivial, ?_⟩
    rw [Oper.semAt_eq _ _ _ (fun c hc => by have := hnd i o hi; unfold noDefer at this; rw [hc] at this; cases this)]
    unfold Oper.wp at h
    generalize (execOp a.eval o).run P w = r at *
    cases r with
    | ok x w' =>
     cases x <;> simp only [Oper.upon, Oper.uponIn] at h ⊢
     case value => exact wpOpsIn_of_wpOps hno hnd rest _ _ h
     case skip => exact wpOpsIn_of_wpOps hno hnd rest _ _ h
     case defer => exact wpOpsIn_of_wpOps hno hnd rest _ _ h
     case enter f args =>
      refine ⟨fun h => (by cases h), ?_⟩
      refine (callsIn_wide (n := n - 1)).2 (h.mono fun e w'' he => ?_)
      cases e with
      | returned u => exact wpOpsIn_of_wpOps hno hnd rest _ _ he
      | panicked c => exact he
      | outgrown => exact he
     case row row args =>
      refine ⟨fun h => (by cases h), fun c cs _ => ?_⟩
      obtain ⟨v, w'', h1, h2⟩ := h c cs
      exact ⟨v, w'', wpOpsIn_of_wpOps hno hnd rest _ _ h1, stepsIn_wide.2 h2⟩
    | halt x w' => cases x <;> simp only [Oper.upon, Oper.uponIn] at h ⊢ <;> exact h
   ·
    rename_i hw
    rw [if_neg hw] at h
    exact ⟨fun _ _ => trivial, wpOpsIn_of_wpOps hno hnd rest _ _ h⟩

/-- A region in a round: one condition S for the whole region, as outside of a fence. -/
theorem wpIn_round_held {l n : Nat} {P : Program} {id : Nat} {L : List Oper} {Q : Exit → Act → World → Prop} {a : Act} {w : World} {S : World → Prop} (hm : P.follows .mixedOrders = true) (hno : ¬ LetsOut Q) (hnd : L.all noDefer = true) (hS : S w.drew)
  (h : S w.drew → wpAnyH P .any L.toArray Q S L.toArray.size (Array.replicate L.toArray.size false) a w.drew) : (Code.region id L.toArray true).wpIn (Fence.wide.inRound l) n P Q a w :=
 wpIn_region_draw fun t => by
  simp only [Region.schedule, hm, Bool.true_or, if_true]
  exact wpOpsIn_of_wpOps hno (fun i o hi => List.all_eq_true.1 hnd o (by simpa using List.mem_of_getElem? (l := L) (by simpa using hi))) _ _ _ (wpAny_sound L.toArray.size t _ a _ (wpAny_of_held _ _ _ _ (h hS)))
end Go.Proofs.YthpgeeaccmgbkaaGreat

/- polynomial.Canonical. -/
namespace Go.Proofs.YthpgeeaccmgbkaaGreat
open Go.RowKit

/-- Without the zeros at the end. -/
def tzI (l : List Int) : List Int := (l.reverse.dropWhile (· == 0)).reverse
theorem tzI_snoc_zero (l : List Int) : tzI (l ++ [0]) = tzI l := by simp [tzI]
theorem tzI_snoc_ne (l : List Int) {x : Int} (h : x ≠ 0) : tzI (l ++ [x]) = l ++ [x] := by simp [tzI, h]
theorem tzI_nil : tzI [] = [] := rfl
theorem eqI_dec (x y : Int) : (ineg x == ineg y && imag x == imag y) = decide (x = y) := by
 have hb : ∀ a b : ByteArray, (a == b) = decide (a = b) := fun a b => by
  rw [beq_toListBytes]
  by_cases h : a = b
  ·
   subst h; simp
  ·
   have h2 : ¬ a.toList = b.toList := fun e => h (str_ext (by rw [← ByteArray.toList_eq, ← ByteArray.toList_eq]; exact e))
   simp [h, h2]
 rw [hb]
 by_cases h : x = y
 ·
  subst h; simp
 ·
  rw [decide_eq_false h]
  by_cases h1 : ineg x = ineg y
  ·
   by_cases h2 : imag x = imag y
   ·
    exact absurd ((ival_canon x).symm.trans (by rw [h1, h2, ival_canon])) h
   ·
    simp [h2]
  ·
   simp [h1]
theorem eqIn_zero (x : Int) (w : World) : (Op.equalIn 10000 28 (.agg #[.bool (ineg x), .string (imag x)]) (.agg #[.bool false, .string ⟨#[]⟩])).run Tryz.prog w = .ok (decide (x = 0)) w := by
 have h := eqIn_int (ineg x) (ineg 0) (imag x) (imag 0) w
 rw [eqI_dec, imag_zero] at h
 exact h
def slLen : Value → Nat
 | .slice _ n _ => n
 | _ => 0
def CanRet (l : List Int) (w : World) (e : Ending) (w' : World) : Prop :=
 Below w.heap.size w w' ∧ ∃ v, e = .returned v ∧ Row w' v (tzI l).length (civ (tzI l))
theorem mkI0 (n : Nat) (h : n ≤ 1000000) (w : World) : (Instr.makeSlice 32 (.int .i64 0) (.int .i64 (n : Int))).run Tryz.prog w = .ok (.slice (some ⟨w.heap.size, 0, none⟩) 0 n) (w.alloc (.cells (zarr (.agg #[.bool false, .string ⟨#[]⟩]) n) 28)) :=
 mk_slice 32 28 _ 2 24 Tryz.underlying32 infoZ rfl .i64 .i64 0 n (Nat.zero_le _) (by omega) (by omega) 0 _ rfl rfl w
set_option maxRecDepth 100000 in
set_option maxHeartbeats 6400000 in
theorem canon_any (l : List Int) (v : Value) (w : World) (hr : Row w v l.length (civ l)) (hl : l.length ≤ 100000) (hs : ∀ x ∈ l, small x) :
  Calls Tryz.prog 55 #[v] w (CanRet l w) := by
 obtain ⟨va, vc, rfl, hle⟩ := hr.slice
 obtain ⟨i0, hi, hz0, hz1', hz2'⟩ := info_parts infoZ
 obtain ⟨n, hn⟩ : ∃ n, n = l.length := ⟨_, rfl⟩
 have hadd : ∀ x, x ∈ l → ∀ w', Calls Tryz.prog 44 #[IntV x, .agg #[.bool false, .string ⟨#[]⟩]] w' (Ret w' (IntV x)) := fun x hx w' => by
  have h := iadd_any (ineg x) (ineg 0) (imag x) (imag 0) w' (hs x hx) (by rw [imag_zero]; decide)
  rw [ival_canon, ival_canon, Int.add_zero, imag_zero] at h
  exact h
 rw [← hn] at hr hle hl
 have hmk := mkI0 n (by omega)
 have hmade := own_made w w.heap.size 28 (.agg #[.bool false, .string ⟨#[]⟩]) n (Nat.le_refl _) (by unfold maxLen; omega)
 have s0 := (Below.refl w.heap.size w).alloc (Nat.le_refl _) (.cells (zarr (.agg #[.bool false, .string ⟨#[]⟩]) n) 28)
 have HR := Lib.hid hr; clear hr
 have HN := Lib.hid hn; clear hn
 have HADD := Lib.hid hadd; clear hadd
 have HMADE := Lib.hid hmade; clear hmade
 have S0 := Lib.hid s0; clear s0
 clear hs
 go_enter Tryz.func55, Tryz.ntmps55
 rw [← HN.out]
 go_wp2_with fail
 go_loopw [3, 5, 11] (fun u _ i wr => ∃ k : Nat, k ≤ n ∧ i = .int .i64 k ∧ wr.ownsRow w.heap.size 28 2 u k (civ (l.take k)) ∧ Below w.heap.size w wr) (fun _ _ i _ => n - (intOf i).toNat)
 case atStart => exact ⟨0, Nat.zero_le _, rfl, HMADE.out, S0.out⟩
 case round =>
  obtain ⟨k, hk, rfl, hown, hbel⟩ := hrel
  have hsz : w.heap.size ≤ wr.heap.size := hbel.size
  obtain ⟨wo, rfl⟩ : ∃ wo : World, wo = wr := ⟨_, rfl⟩
  by_cases hlt : k < n
  ·
   have hkl : k < l.length := by rw [← HN.out]; exact hlt
   have hget : l[k]? = some (l[k]'hkl) := List.getElem?_eq_getElem _
   obtain ⟨x, hx⟩ : ∃ x, x = l[k]'hkl := ⟨_, rfl⟩
   rw [← hx] at hget
   have haddx := HADD.out x (by rw [hx]; exact List.getElem_mem _)
   have hz2 : civ (l.take (k + 1)) = civ (l.take k) ++ [.bool (ineg x), .string (imag x)] := by
    rw [List.take_add_one, hget]; exact civ_snoc _ _
   obtain ⟨b1, o1, rfl, hb1, hbc⟩ := HR.out.at_ (by omega)
   obtain ⟨c0, c1⟩ := int_cells hbc hbel hb1 hget
   obtain ⟨a, cap, rfl⟩ := own_slice hown
   have hix1 : (0 : Int) ≤ (k : Int) := by omega
   have hix2 : (k : Int) < (n : Int) := by omega
   have ho1 := hown.alloc (.cells #[.bool (ineg x), .string (imag x)] 28)
   have s1 := hbel.alloc hsz (.cells #[.bool (ineg x), .string (imag x)] 28)
   have bx := Blk.new wo 28 [.bool (ineg x), .string (imag x)]
   have d0 := bx.cell (j := 0) rfl
   have d1 := bx.cell (j := 1) rfl
   have HO1 := Lib.hid ho1; clear ho1
   have S1 := Lib.hid s1; clear s1
   have HZ2 := Lib.hid hz2; clear hz2
   have HADDX := Lib.hid haddx; clear haddx
   clear hx hget hbc hkl bx hown
   go_wp2_with fail
   go_at_call 44
   refine (HADDX.out _).mono ?_
   rintro e w2 ⟨hq2, rfl⟩
   have ho2 := own_below HO1.out hq2
   have hb2 := S1.out.trans (hq2.mono S1.out.size)
   have hsz2 : w.heap.size ≤ w2.heap.size := hb2.size
   have HO2 := Lib.hid ho2; clear ho2
   have HB2 := Lib.hid hb2; clear hb2
   clear hq2 d0 d1 c0 c1
   go_wp2_with (at_builtin; refine wpList_append_lies _ rfl (.tmp 15) (.tmp 19) 32 rfl w.heap.size 28 i0 _ 2 24 Tryz.underlying32 hi hz0 hz1' hz2' rfl (by decide) _ _ _ rfl (HO2.out.alloc _) _ 1 1 [.bool (ineg x), .string (imag x)] rfl rfl (World.news_of_block (heap_alloc_new _ _)) (by simp [Value.oneCell']) (by omega) (by unfold maxLen; omega) (by omega) (by simp; omega) _ rfl ?_; intro g cap' w3 hown' hg hat hlt'; have HG := Lib.hid hg; clear hg; have HO4 := Lib.hid hown'; clear hown'; have HAT := Lib.hid hat; clear hat)
   go_roundw
   case rel =>
    refine ⟨k + 1, by omega, by go_num, ?_, (HB2.out.alloc hsz2 _).grown HG.out (by simp; omega) (fun j hj => (HO2.out.lt j hj).1)⟩
    rw [HZ2.out]; exact HO4.out
   case measure => simp [intOf]; omega
  ·
   obtain rfl : k = n := by omega
   have htk : l.take k = l := List.take_of_length_le (by rw [← HN.out]; exact Nat.le_refl _)
   rw [htk] at hown
   have hrow := own_row hown
   have HROW := Lib.hid hrow; clear hrow
   have HB := Lib.hid hbel; clear hbel
   clear hown htk hlt hk
   go_wp2_with fail
   go_loopw [3] (fun u wr => ∃ m : Nat, m ≤ k ∧ Row wr u m (civ (l.take m)) ∧ tzI (l.take m) = tzI l ∧ Below wo.heap.size wo wr) (fun u _ => slLen u)
   case atStart => exact ⟨k, Nat.le_refl _, by rw [List.take_of_length_le (by rw [← HN.out]; exact Nat.le_refl _)]; exact HROW.out, by rw [List.take_of_length_le (by rw [← HN.out]; exact Nat.le_refl _)], Below.refl _ _⟩
   case round =>
    obtain ⟨m, hm, hrw, htz, hbw⟩ := hrel
    have s2 := HB.out.trans (hbw.mono HB.out.size)
    obtain ⟨ua, uc, rfl, hule⟩ := hrw.slice
    have HTZ := Lib.hid htz; clear htz
    have HBW := Lib.hid hbw; clear hbw
    have S2 := Lib.hid s2; clear s2
    cases m with
    | zero =>
     have HRW := Lib.hid hrw; clear hrw
     go_wp2_with fail
     go_ret
     refine ⟨S2.out, _, rfl, ?_⟩
     rw [← HTZ.out]
     exact HRW.out
    | succ m =>
     have hml : m < l.length := by rw [← HN.out]; omega
     have hget : l[m]? = some (l[m]'hml) := List.getElem?_eq_getElem _
     obtain ⟨x, hx⟩ : ∃ x, x = l[m]'hml := ⟨_, rfl⟩
     rw [← hx] at hget
     have htake : l.take (m + 1) = l.take m ++ [x] := by rw [List.take_add_one, hget]; rfl
     have hget2 : (l.take (m + 1))[m]? = some x := by rw [List.getElem?_take, if_pos (by omega)]; exact hget
     obtain ⟨b1, o1, rfl, hb1, hbc⟩ := hrw.at_ (by omega)
     obtain ⟨c0, c1⟩ := int_cells hbc (Below.refl wr.heap.size wr) hb1 hget2
     have hez := fun w' => eqIn_zero x w'
     have hpos : (0 : Int) < ((m : Int) + 1) := by omega
     have hcap : m + 1 ≤ uc := by
      rcases id hrw with ⟨h1, -, -⟩ | ⟨b, off, cap, h1, h2, h3, h4, h5⟩
      ·
       cases h1
      ·
       cases h1; exact h2
     have hcap1 : m ≤ uc := by omega
     have hcap0 : ¬ uc = 0 := by omega
     have hcut : Row wr (.slice (some ⟨b1, o1, none⟩) m uc) m (civ (l.take m)) := by
      rcases id hrw with ⟨h1, -, -⟩ | ⟨b, off, cap, h1, h2, h3, h4, h5⟩
      ·
       cases h1
      ·
       cases h1
       refine .inr ⟨_, _, _, rfl, by omega, h3, h4, fun j u hu => h5 j u ?_⟩
       rw [htake, civ_append, List.getElem?_append_left (List.getElem?_eq_some_iff.1 hu).1]
       exact hu
     have HCUT := Lib.hid hcut; clear hcut
     by_cases h0 : x = 0
     ·
      have hnx : tzI (l.take m) = tzI l := by rw [← HTZ.out, htake, h0, tzI_snoc_zero]
      rw [decide_eq_true h0] at hez
      have HNX := Lib.hid hnx; clear hnx
      clear hbc hget hget2 htake h0 hrw hml hx
      go_wp2_with fail
      go_roundw
      case rel => exact ⟨m, by omega, HCUT.out, HNX.out, HBW.out⟩
      case measure => simp [slLen]
     ·
      have hfin : tzI l = l.take (m + 1) := by rw [← HTZ.out, htake, tzI_snoc_ne _ h0]
      rw [decide_eq_false h0] at hez
      have hlen : (tzI l).length = m + 1 := by rw [hfin, List.length_take]; omega
      have HFIN := Lib.hid hfin; clear hfin
      have HLEN := Lib.hid hlen; clear hlen
      have HRW := Lib.hid hrw; clear hrw
      clear hbc hget hget2 htake h0 hml hx
      go_wp2_with fail
      go_ret
      refine ⟨S2.out, _, rfl, ?_⟩
      rw [HLEN.out, HFIN.out]
      exact HRW.out
end Go.Proofs.YthpgeeaccmgbkaaGreat

/- A region that draws its order, within a fence that lets all through. -/
namespace Go.Proofs.YthpgeeaccmgbkaaGreat
open Go.RowKit

theorem wpOpsIn_wide {n : Nat} {P : Program} {ops : Array Oper} {Q : Exit → Act → World → Prop} (hno : ¬ LetsOut Q) (hnd : ∀ (i : Nat) (o : Oper), ops[i]? = some o → noDefer o = true) :
  ∀ (L : List Nat) (a : Act) (w : World), wpOps P ops Q L a w → wpOpsIn Fence.wide n P ops Q L a w
 | [], _, _, h => h
 | i :: rest, a, w, h =>
  by
  simp only [wpOps] at h
  simp only [wpOpsIn]
  cases hi : ops[i]? with
  | none => simp only [hi] at h ⊢; exact wpOpsIn_wide hno hnd rest a w h
  | some o =>
   simp only [hi] at h ⊢
   split
   ·
    rename_i hw
    rw [if_pos hw] at h
    rcases h with h | ⟨_, h⟩
    case inr => exact absurd h hno
    refine ⟨fun _ _ => trivial, ?_⟩
    rw [Oper.semAt_eq _ _ _ (fun c hc => by have := hnd i o hi; unfold noDefer at this; rw [hc] at this; cases this)]
    unfold Oper.wp at h
    generalize (execOp a.eval o).run P w = r at *
    cases r with
    | ok x w' =>
     cases x <;> simp only [Oper.upon, Oper.uponIn] at h ⊢
     case value => exact wpOpsIn_wide hno hnd rest _ _ h
     case skip => exact wpOpsIn_wide hno hnd rest _ _ h
     case defer => exact wpOpsIn_wide hno hnd rest _ _ h
     case enter f args =>
      refine ⟨fun h => (by cases h), ?_⟩
      refine (callsIn_wide (n := n - 1)).2 (h.mono fun e w'' he => ?_)
      cases e with
      | returned u => exact wpOpsIn_wide hno hnd rest _ _ he
      | panicked c => exact he
      | outgrown => exact he
     case row row args =>
      refine ⟨fun h => (by cases h), fun c cs _ => ?_⟩
      obtain ⟨v, w'', h1, h2⟩ := h c cs
      exact ⟨v, w'', wpOpsIn_wide hno hnd rest _ _ h1, stepsIn_wide.2 h2⟩
    | halt x w' => cases x <;> simp only [Oper.upon, Oper.uponIn] at h ⊢ <;> exact h
   ·
    rename_i hw
    rw [if_neg hw] at h
    exact ⟨fun _ _ => trivial, wpOpsIn_wide hno hnd rest _ _ h⟩

theorem wpIn_wide_held {n : Nat} {P : Program} {id : Nat} {L : List Oper} {Q : Exit → Act → World → Prop} {a : Act} {w : World} {S : World → Prop} (hm : P.follows .mixedOrders = true) (hno : ¬ LetsOut Q) (hnd : L.all noDefer = true) (hS : S w.drew)
  (h : S w.drew → wpAnyH P .any L.toArray Q S L.toArray.size (Array.replicate L.toArray.size false) a w.drew) : (Code.region id L.toArray true).wpIn Fence.wide n P Q a w :=
 wpIn_region_draw fun t => by
  simp only [Region.schedule, hm, Bool.true_or, if_true]
  exact wpOpsIn_wide hno (fun i o hi => List.all_eq_true.1 hnd o (by simpa using List.mem_of_getElem? (l := L) (by simpa using hi))) _ _ _ (wpAny_sound L.toArray.size t _ a _ (wpAny_of_held _ _ _ _ (h hS)))
/-- No panic, nothing outgrown: the normal end alone. -/
def nOnly (Q : Exit → Act → World → Prop) : Exit → Act → World → Prop
 | .normal, a, w => Q .normal a w
 | _, _, _ => False
theorem wpIn_wide_norm {n : Nat} {P : Program} {id : Nat} {L : List Oper} {Q : Exit → Act → World → Prop} {a : Act} {w : World} {S : World → Prop} (hm : P.follows .mixedOrders = true) (hnd : L.all noDefer = true) (hS : S w.drew)
  (h : S w.drew → wpAnyH P .any L.toArray (nOnly Q) S L.toArray.size (Array.replicate L.toArray.size false) a w.drew) : (Code.region id L.toArray true).wpIn Fence.wide n P Q a w :=
 Code.wpIn_mono (Q := nOnly Q) (fun e a w hq => by cases e <;> first | exact hq | exact hq.elim) (wpIn_wide_held hm (fun ⟨_, _, h⟩ => h) hnd hS h)
end Go.Proofs.YthpgeeaccmgbkaaGreat

