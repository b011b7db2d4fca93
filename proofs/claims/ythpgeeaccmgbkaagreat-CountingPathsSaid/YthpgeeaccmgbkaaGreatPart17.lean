/- Contracts and plain laws of several functions, one after the other: EdgeA, TabB, CloneI, Ints, Canon. -/
import Derived.Laws.StructEq
import Derived.Deep.RegionHeld3
import Derived.Deep.QuietTactic
import Derived.Lib.SliceRun
import Derived.Test.YthpgeeaccmgbkaaGreatCheck
import Derived.Test.YthpgeeaccmgbkaaGreatPart11
import Derived.Test.YthpgeeaccmgbkaaGreatPart4
/- The contracts of slices.Equal, slices.Clone and slices.Compact at edges; nothing that was there is changed. -/
namespace Go.Proofs.YthpgeeaccmgbkaaGreat
open Go.RowKit

theorem eqType : Tryz.prog.underlying 53 = some (.struct (Tryz.prog.fieldsOf 53)) := by kernel_rfl
theorem eqStood : Tryz.prog.stoodInHeld 53 = false := by kernel_rfl
theorem eqFlds : (Tryz.prog.fieldsOf 53).toList.map (fun f => (f.type, f.offset, f.name == "_")) = [(3, 0, false), (3, 1, false), (3, 2, false)] := by kernel_rfl
theorem partInt (xs : Array Value) (i : Nat) (v : Value) (h : xs[i]? = some v) (w : World) : (Go.part 3 xs i).run Tryz.prog w = .ok v w := by
  simp [Go.part, Tryz.isAgg3, h]
set_option maxRecDepth 100000 in
theorem eqIn_edge (a b : E3) (w : World) : (Op.equalIn 10000 53 a.val b.val).run Tryz.prog w = .ok (decide (a = b)) w := by
  have e : ∀ fs, (Tryz.prog.fieldsOf 53).toList = fs → (Op.eqFields 9999 #[.int .i64 a.f, .int .i64 a.l, .int .i64 a.t] #[.int .i64 b.f, .int .i64 b.l, .int .i64 b.t] fs).run Tryz.prog w = .ok (decide (a = b)) w := by
    intro fs hfs
    have hm := eqFlds
    rw [hfs] at hm
    match fs, hm with
    | [f0, f1, f2], hm =>
      simp only [List.map_cons, List.map_nil, List.cons.injEq, Prod.mk.injEq, and_true] at hm
      obtain ⟨⟨t0, o0, n0⟩, ⟨t1, o1, n1⟩, ⟨t2, o2, n2⟩⟩ := hm
      rw [beq_eq_false_iff_ne] at n0 n1 n2
      simp [Op.eqFields, n0, n1, n2, t0, o0, t1, o1, t2, o2, Go.part, Tryz.isAgg3, run_equalIn_int, Tryz.underlying3]
      have he : (a = b) ↔ a.f = b.f ∧ a.l = b.l ∧ a.t = b.t := by cases a; cases b; simp
      by_cases h1 : a.f = b.f <;> by_cases h2 : a.l = b.l <;> by_cases h3 : a.t = b.t <;> simp [he, h1, h2, h3]
  exact (run_equalIn_struct (P := Tryz.prog) w 9999 53 _ _ eqType eqStood).trans (e _ rfl)
theorem neq_edge (a b : E3) (w : World) : (binOp .neq 53 a.val b.val).run Tryz.prog w = .ok (.bool (!decide (a = b))) w := by
  rw [run_neq_struct, eqIn_edge]; rfl
theorem eql_edge (a b : E3) (w : World) : (binOp .eql 53 a.val b.val).run Tryz.prog w = .ok (.bool (decide (a = b))) w := by
  rw [run_eql_struct, eqIn_edge]; rfl

/-- The cells of an edge of a slice, in a world in which nothing of it has changed. -/
theorem edge_cells {w w' : World} {B b off : Nat} {es : List E3} {k : Nat} {e : E3} (hce : ∀ (j : Nat) (u : Value), (ce es)[j]? = some u → w.cell? ⟨b, off + j, none⟩ = some u) (hb : Below B w w') (hlt : b < B) (h : es[k]? = some e) :
    w'.cell? ⟨b, off + k * 3, none⟩ = some (.int .i64 e.f) ∧ w'.cell? ⟨b, off + k * 3 + 1, none⟩ = some (.int .i64 e.l) ∧ w'.cell? ⟨b, off + k * 3 + 2, none⟩ = some (.int .i64 e.t) :=
  ⟨(hb.cell (p := ⟨b, off + k * 3, none⟩) hlt).trans (hce (k * 3) _ (ce_get (j := 0) h rfl)), (hb.cell (p := ⟨b, off + k * 3 + 1, none⟩) hlt).trans (hce (k * 3 + 1) _ (ce_get (j := 1) h rfl)), (hb.cell (p := ⟨b, off + k * 3 + 2, none⟩) hlt).trans (hce (k * 3 + 2) _ (ce_get (j := 2) h rfl))⟩

end Go.Proofs.YthpgeeaccmgbkaaGreat

/- Tables of integers in memory. -/
namespace Go.Proofs.YthpgeeaccmgbkaaGreat
open Go.RowKit

/-- A row, a table in blocks from B on. -/
def RowB (B : Nat) (w : World) (v : Value) (n : Nat) (xs : List Value) : Prop := Row w v n xs ∧ ∀ k, v.ownBlock = some k → B ≤ k
def TabB (B : Nat) (w : World) (v : Value) (rows : List (List Int)) : Prop :=
  ∃ rvs : List Value, rvs.length = rows.length ∧ RowB B w v rows.length rvs ∧ ∀ (i : Nat) (r : List Int), rows[i]? = some r → ∃ rv : Value, rvs[i]? = some rv ∧ RowB B w rv r.length (civ r)
theorem TabB.tab {B : Nat} {w : World} {v : Value} {rows : List (List Int)} (h : TabB B w v rows) : Tab w v rows := by
  obtain ⟨rvs, h1, h2, h3⟩ := h
  exact ⟨rvs, h1, h2.1, fun i r hr => by obtain ⟨rv, h4, h5⟩ := h3 i r hr; exact ⟨rv, h4, h5.1⟩⟩
theorem rowB_put {B : Nat} {w : World} {v : Value} {n : Nat} {xs : List Value} (h : RowB B w v n xs) {d : Nat} (hd : d < B) (j : Nat) (u : Value) : RowB B (w.setCell ⟨d, j, none⟩ u) v n xs := by
  refine ⟨?_, h.2⟩
  rcases h.1 with h1 | ⟨b, off, cap, rfl, h1, h2, h3, h4⟩
  · exact .inl h1
  · have hb : B ≤ b := h.2 b rfl
    refine .inr ⟨b, off, cap, rfl, h1, h2, by simpa using h3, fun i x hx => ?_⟩
    rw [World.cell?_setCell_far _ _ _ _ (fun e => by simp at e; omega)]
    exact h4 i x hx
theorem TabB.put {B : Nat} {w : World} {v : Value} {rows : List (List Int)} (h : TabB B w v rows) {d : Nat} (hd : d < B) (j : Nat) (u : Value) : TabB B (w.setCell ⟨d, j, none⟩ u) v rows := by
  obtain ⟨rvs, h1, h2, h3⟩ := h
  exact ⟨rvs, h1, rowB_put h2 hd j u, fun i r hr => by obtain ⟨rv, h4, h5⟩ := h3 i r hr; exact ⟨rv, h4, rowB_put h5 hd j u⟩⟩
theorem TabB.below {B C : Nat} {w w' : World} {v : Value} {rows : List (List Int)} (h : TabB B w v rows) (k : Below C w w') (hC : w.heap.size ≤ C) : TabB B w' v rows := by
  obtain ⟨rvs, h1, h2, h3⟩ := h
  exact ⟨rvs, h1, ⟨h2.1.below k hC, h2.2⟩, fun i r hr => by obtain ⟨rv, h4, h5⟩ := h3 i r hr; exact ⟨rv, h4, h5.1.below k hC, h5.2⟩⟩
def TabRet (w : World) (rows : List (List Int)) (e : Ending) (w' : World) : Prop := Below w.heap.size w w' ∧ ∃ v, e = .returned v ∧ TabB w.heap.size w' v rows
/-- The rows from 0 to n. -/
def tabL (es : List E3) (S : Nat) (p : Int → Bool) (n : Nat) : List (List Int) := (List.range (n + 1)).map (rowK es S p)
theorem tabL_length (es : List E3) (S : Nat) (p : Int → Bool) (n : Nat) : (tabL es S p n).length = n + 1 := by simp [tabL]
theorem tabL_get {es : List E3} {S : Nat} {p : Int → Bool} {n i : Nat} (h : i < n + 1) : (tabL es S p n)[i]? = some (rowK es S p i) := by simp [tabL, h]
/-- The rows that lie in memory. -/
def RowsAt (B : Nat) (w : World) (es : List E3) (S : Nat) (p : Int → Bool) (k : Nat) (rvs : List Value) : Prop :=
  ∀ i, i ≤ k → ∃ b, B ≤ b ∧ rvs[i]? = some (.slice (some ⟨b, 0, none⟩) S S) ∧ Blk w b 28 (civ (rowK es S p i))
theorem RowsAt.keep {B : Nat} {w w' : World} {es : List E3} {S : Nat} {p : Int → Bool} {k : Nat} {rvs : List Value} (h : RowsAt B w es S p k rvs) (hq : Below w.heap.size w w') : RowsAt B w' es S p k rvs :=
  fun i hi => by obtain ⟨b, h0, h1, h2⟩ := h i hi; exact ⟨b, h0, h1, h2.keep hq⟩
theorem RowsAt.grown {B : Nat} {w w' : World} {es : List E3} {S : Nat} {p : Int → Bool} {k : Nat} {rvs : List Value} {row : Option Nat} (h : RowsAt B w es S p k rvs) (hg : w.grownBy w' row) (hne : ∀ b ys, Blk w b 28 ys → row ≠ some b) : RowsAt B w' es S p k rvs :=
  fun i hi => by obtain ⟨b, h0, h1, h2⟩ := h i hi; exact ⟨b, h0, h1, h2.grown hg (hne b _ h2)⟩
theorem RowsAt.snoc {B : Nat} {w : World} {es : List E3} {S : Nat} {p : Int → Bool} {k b : Nat} {rvs : List Value} (h : RowsAt B w es S p k rvs) (hl : rvs.length = k + 1) (hB : B ≤ b) (hb : Blk w b 28 (civ (rowK es S p (k + 1)))) : RowsAt B w es S p (k + 1) (rvs ++ [.slice (some ⟨b, 0, none⟩) S S]) := fun i hi => by
  by_cases h1 : i ≤ k
  · obtain ⟨b', h0, h2, h3⟩ := h i h1
    exact ⟨b', h0, by rw [List.getElem?_append_left (by omega)]; exact h2, h3⟩
  · obtain rfl : i = k + 1 := by omega
    exact ⟨b, hB, by rw [List.getElem?_append_right (by omega), hl]; simp, hb⟩
theorem infoRow : (Tryz.prog.info? 32).map (fun i => (i.zero, i.size, i.bytes)) = some (some (.slice none 0 0), 1, 24) := by kernel_rfl

end Go.Proofs.YthpgeeaccmgbkaaGreat

/- slices.Clone at integers. -/
namespace Go.Proofs.YthpgeeaccmgbkaaGreat
open Go.RowKit

/-- A slice of integers of its own. -/
def IntsRet (w : World) (l : List Int) (e : Ending) (w' : World) : Prop :=
  Below w.heap.size w w' ∧ ∃ v, e = .returned v ∧ w'.ownsRow w.heap.size 28 2 v l.length (civ l)
set_option maxRecDepth 100000 in
set_option maxHeartbeats 3200000 in
theorem cloneI_any (l : List Int) (v : Value) (w : World) (hr : Row w v l.length (civ l)) (hlen : l.length ≤ 1000000000) :
    Calls Tryz.prog 53 #[v] w (IntsRet w l) := by
  rcases hr with ⟨rfl, h1, h2⟩ | ⟨b, off, cap, rfl, h1, h2, h3, h4⟩
  · have hd : l = [] := List.length_eq_zero_iff.1 h1
    subst hd
    clear h1 h2
    have hnil := fun (wx : World) => Lib.run_eql_slice_nil (P := Tryz.prog) wx 32 28 none 0 0 0 0 Tryz.underlying32
    simp only [Option.isNone_none] at hnil
    go_enter Tryz.func53, Tryz.ntmps53
    go_wp2_with fail
    go_ret
    exact ⟨Below.refl _ _, .slice none 0 0, rfl, World.ownsRow_nil _ _ _ _⟩
  · have hnil := fun (wx : World) => Lib.run_eql_slice_nil (P := Tryz.prog) wx 32 28 (some ⟨b, off, none⟩) l.length cap 0 0 Tryz.underlying32
    simp only [Option.isNone_some] at hnil
    obtain ⟨i0, hi, hz0, hz1, hz2⟩ := info_parts infoZ
    have hm0 := World.ownsRow_made w (#[] : Array Value) 0 (base := w.heap.size) (e := 28) (size := 2) (Nat.le_refl _) (Nat.zero_le _) rfl
    have hc : ∀ (j : Nat) (u : Value), (civ l)[j]? = some u → (w.alloc (.cells #[] 28)).cell? ((⟨b, off, none⟩ : Addr).add j) = some u := by
      intro j u hu
      have e : (⟨b, off, none⟩ : Addr).add j = ⟨b, off + j, none⟩ := by
        unfold Addr.add
        split
        · rename_i h0; subst h0; rfl
        · rfl
      rw [e, below_new w _ h3]; exact h4 j u hu
    have h1c : ∀ u ∈ civ l, u.oneCell' = true := by
      intro u hu
      simp only [civ, List.mem_flatMap] at hu
      obtain ⟨e, _, hu⟩ := hu
      simp only [List.mem_cons, List.not_mem_nil, or_false] at hu
      rcases hu with rfl | rfl <;> rfl
    have hcl := civ_length l
    have HM0 := Lib.hid hm0; clear hm0
    have HC := Lib.hid hc; clear hc
    have H1C := Lib.hid h1c; clear h1c
    have HCL := Lib.hid hcl; clear hcl
    clear h4
    go_enter Tryz.func53, Tryz.ntmps53
    go_wp2_with (at_builtin; refine wpList_append_own _ rfl (.tmp 5) (.tmp 6) 32 rfl w.heap.size 28 i0 _ 2 24 Tryz.underlying32 hi hz0 hz1 hz2 rfl (by decide) _ _ _ rfl HM0.out _ _ _ (civ l) rfl HCL.out HC.out H1C.out (by unfold maxLen; omega) (by omega) (by simp) ?_; intro v' w1 hown hg hnn)
    rw [Nat.zero_add, List.nil_append] at hown
    have HO := Lib.hid hown; clear hown
    have HG := Lib.hid hg; clear hg
    clear hnn
    go_wp2_with fail
    go_ret
    exact ⟨((Below.refl w.heap.size w).alloc (Nat.le_refl _) _).grown HG.out (by simp) (fun k hk => by cases hk; exact Nat.le_refl _), v', rfl, HO.out⟩
/-- An owned slice of integers as a block. -/
theorem own_blkI {w : World} {base n : Nat} {e : TypeId} {v : Value} {l : List Int} (h : w.ownsRow base e 2 v n (civ l)) (hn : n ≠ 0) (hl : l.length = n) : ∃ g cap rest, v = .slice (some ⟨g, 0, none⟩) n cap ∧ base ≤ g ∧ Blk w g e (civ l ++ rest) ∧ n ≤ cap ∧ cap ≤ maxLen := by
  rcases h.2 with ⟨_, h0⟩ | ⟨g, cap, cur, hv, h1, h2, h3, h4, h5, h6⟩
  · exact absurd h0 hn
  · refine ⟨g, cap, cur.toList.drop (n * 2), hv, h1, ?_, h3, h4⟩
    have e1 : civ l ++ cur.toList.drop (n * 2) = cur.toList := by
      rw [← h6, List.take_append_drop]
    rw [e1]
    unfold Blk; rw [Array.toArray_toList]; exact h2
/-- A block's beginning as a slice. -/
theorem blk_rowI {w : World} {b cap : Nat} {l : List Int} {rest : List Value} (h : Blk w b 28 (civ l ++ rest)) (h1 : l.length ≤ cap) (h2 : cap ≤ maxLen) : Row w (.slice (some ⟨b, 0, none⟩) l.length cap) l.length (civ l) := by
  have h3 := Row.ofBlk h (m := l.length) (cap := cap) h1 h2 (civ l).length
  rwa [List.take_left] at h3
end Go.Proofs.YthpgeeaccmgbkaaGreat

/- groovelaw22.ints. -/
namespace Go.Proofs.YthpgeeaccmgbkaaGreat
open Go.RowKit

theorem civ_snoc (l : List Int) (z : Int) : civ (l ++ [z]) = civ l ++ [.bool (ineg z), .string (imag z)] := by simp [civ]
set_option maxRecDepth 100000 in
set_option maxHeartbeats 3200000 in
theorem ints_any (l : List Int) (v : Value) (w : World) (hr : Row w v l.length (ci l)) (hl : l.length ≤ 100000) (hs : ∀ x ∈ l, -9223372036854775808 ≤ x ∧ x ≤ 9223372036854775807) :
    Calls Tryz.prog 30 #[v] w (IntsRet w l) := by
  obtain ⟨va, vc, rfl, hle⟩ := hr.slice
  obtain ⟨i0, hi, hz0, hz1', hz2'⟩ := info_parts infoZ
  obtain ⟨n, hn⟩ : ∃ n, n = l.length := ⟨_, rfl⟩
  have hof := fun x (hx : x ∈ l) w' => iof_any x w' (hs x hx).1 (hs x hx).2
  rw [← hn] at hr hle hl
  have HR := Lib.hid hr; clear hr
  have HN := Lib.hid hn; clear hn
  have HOF := Lib.hid hof; clear hof
  clear hs
  go_enter Tryz.func30, Tryz.ntmps30
  rw [← HN.out]
  go_wp2_with fail
  go_loopw [3, 5, 8] (fun u _ i wr => ∃ k : Nat, k ≤ n ∧ i = .int .i64 k ∧ wr.ownsRow w.heap.size 28 2 u k (civ (l.take k)) ∧ Below w.heap.size w wr) (fun _ _ i _ => n - (intOf i).toNat)
  case atStart => exact ⟨0, Nat.zero_le _, rfl, World.ownsRow_nil _ _ _ _, Below.refl _ _⟩
  case round =>
    obtain ⟨k, hk, rfl, hown, hbel⟩ := hrel
    have hsz : w.heap.size ≤ wr.heap.size := hbel.size
    by_cases hlt : k < n
    · have hkl : k < l.length := by rw [← HN.out]; exact hlt
      have hget : l[k]? = some (l[k]'hkl) := List.getElem?_eq_getElem _
      obtain ⟨x, hx⟩ : ∃ x, x = l[k]'hkl := ⟨_, rfl⟩
      rw [← hx] at hget
      have hofx := HOF.out x (by rw [hx]; exact List.getElem_mem _)
      have hz2 : civ (l.take (k + 1)) = civ (l.take k) ++ [.bool (ineg x), .string (imag x)] := by
        rw [List.take_add_one, hget]; exact civ_snoc _ _
      obtain ⟨b1, o1, rfl, hb1, hbc⟩ := HR.out.at_ (by omega)
      have hbj : wr.cell? ⟨b1, o1 + k, none⟩ = some (.int .i64 x) := (hbel.cell (p := ⟨b1, o1 + k, none⟩) hb1).trans (hbc k _ (by simp [ci, hget]))
      obtain ⟨a, cap, rfl⟩ := own_slice hown
      have hix1 : (0 : Int) ≤ (k : Int) := by omega
      have hix2 : (k : Int) < (n : Int) := by omega
      have HO := Lib.hid hown; clear hown
      have HB := Lib.hid hbel; clear hbel
      have HZ2 := Lib.hid hz2; clear hz2
      have HOFX := Lib.hid hofx; clear hofx
      clear hx hget hbc hkl
      go_wp2_with fail
      go_at_call 28
      refine (HOFX.out _).mono ?_
      rintro e w2 ⟨hq2, rfl⟩
      have ho2 := own_below HO.out hq2
      have hb2 := HB.out.trans (hq2.mono HB.out.size)
      have hsz2 : w.heap.size ≤ w2.heap.size := hb2.size
      have HO2 := Lib.hid ho2; clear ho2
      have HB2 := Lib.hid hb2; clear hb2
      clear hq2
      go_wp2_with (at_builtin; refine wpList_append_lies _ rfl (.tmp 12) (.tmp 15) 32 rfl w.heap.size 28 i0 _ 2 24 Tryz.underlying32 hi hz0 hz1' hz2' rfl (by decide) _ _ _ rfl (HO2.out.alloc _) _ 1 1 [.bool (ineg x), .string (imag x)] rfl rfl (World.news_of_block (heap_alloc_new _ _)) (by simp [Value.oneCell']) (by omega) (by unfold maxLen; omega) (by omega) (by simp; omega) _ rfl ?_; intro g cap' w3 hown' hg hat hlt'; have HG := Lib.hid hg; clear hg; have HO4 := Lib.hid hown'; clear hown'; have HAT := Lib.hid hat; clear hat)
      go_roundw
      case rel =>
        refine ⟨k + 1, by omega, by go_num, ?_, (HB2.out.alloc hsz2 _).grown HG.out (by simp; omega) (fun j hj => (HO2.out.lt j hj).1)⟩
        rw [HZ2.out]; exact HO4.out
      case measure => simp [intOf]; omega
    · obtain rfl : k = n := by omega
      have htk : l.take k = l := List.take_of_length_le (by rw [← HN.out]; exact Nat.le_refl _)
      rw [htk] at hown
      have HO := Lib.hid hown; clear hown
      have HB := Lib.hid hbel; clear hbel
      go_wp2_with fail
      go_ret
      exact ⟨HB.out, _, rfl, by rw [← HN.out]; exact HO.out⟩
end Go.Proofs.YthpgeeaccmgbkaaGreat

/- polynomial.Canonical. -/
namespace Go.Proofs.YthpgeeaccmgbkaaGreat
open Go.RowKit

/-- Without the zeros at the end. -/
def tzI (l : List Int) : List Int := (l.reverse.dropWhile (· == 0)).reverse
theorem tzI_snoc_zero (l : List Int) : tzI (l ++ [0]) = tzI l := by simp [tzI]
theorem tzI_snoc_ne (l : List Int) {x : Int} (h : x ≠ 0) : tzI (l ++ [x]) = l ++ [x] := by simp [tzI, h]
theorem tzI_nil : tzI [] = [] := rfl
theorem eqI_dec (x y : Int) : (ineg x == ineg y && imag x == imag y) = decide (x = y) := by
  have hb : ∀ a b : ByteArray, (a == b) = decide (a = b) := fun a b => by
    rw [beq_toListBytes]
    by_cases h : a = b
    · subst h; simp
    · have h2 : ¬ a.toList = b.toList := fun e => h (str_ext (by rw [← ByteArray.toList_eq, ← ByteArray.toList_eq]; exact e))
      simp [h, h2]
  rw [hb]
  by_cases h : x = y
  · subst h; simp
  · rw [decide_eq_false h]
    by_cases h1 : ineg x = ineg y
    · by_cases h2 : imag x = imag y
      · exact absurd ((ival_canon x).symm.trans (by rw [h1, h2, ival_canon])) h
      · simp [h2]
    · simp [h1]
theorem eqIn_zero (x : Int) (w : World) : (Op.equalIn 10000 28 (.agg #[.bool (ineg x), .string (imag x)]) (.agg #[.bool false, .string ⟨#[]⟩])).run Tryz.prog w = .ok (decide (x = 0)) w := by
  have h := eqIn_int (ineg x) (ineg 0) (imag x) (imag 0) w
  rw [eqI_dec, imag_zero] at h
  exact h
def slLen : Value → Nat
  | .slice _ n _ => n
  | _ => 0
def CanRet (l : List Int) (w : World) (e : Ending) (w' : World) : Prop :=
  Below w.heap.size w w' ∧ ∃ v, e = .returned v ∧ Row w' v (tzI l).length (civ (tzI l))
theorem mkI0 (n : Nat) (h : n ≤ 1000000) (w : World) : (Instr.makeSlice 32 (.int .i64 0) (.int .i64 (n : Int))).run Tryz.prog w = .ok (.slice (some ⟨w.heap.size, 0, none⟩) 0 n) (w.alloc (.cells (zarr (.agg #[.bool false, .string ⟨#[]⟩]) n) 28)) :=
  mk_slice 32 28 _ 2 24 Tryz.underlying32 infoZ rfl .i64 .i64 0 n (Nat.zero_le _) (by omega) (by omega) 0 _ rfl rfl w
set_option maxRecDepth 100000 in
set_option maxHeartbeats 6400000 in
theorem canon_any (l : List Int) (v : Value) (w : World) (hr : Row w v l.length (civ l)) (hl : l.length ≤ 100000) (hs : ∀ x ∈ l, small x) :
    Calls Tryz.prog 55 #[v] w (CanRet l w) := by
  obtain ⟨va, vc, rfl, hle⟩ := hr.slice
  obtain ⟨i0, hi, hz0, hz1', hz2'⟩ := info_parts infoZ
  obtain ⟨n, hn⟩ : ∃ n, n = l.length := ⟨_, rfl⟩
  have hadd : ∀ x, x ∈ l → ∀ w', Calls Tryz.prog 44 #[IntV x, .agg #[.bool false, .string ⟨#[]⟩]] w' (Ret w' (IntV x)) := fun x hx w' => by
    have h := iadd_any (ineg x) (ineg 0) (imag x) (imag 0) w' (hs x hx) (by rw [imag_zero]; decide)
    rw [ival_canon, ival_canon, Int.add_zero, imag_zero] at h
    exact h
  rw [← hn] at hr hle hl
  have hmk := mkI0 n (by omega)
  have hmade := own_made w w.heap.size 28 (.agg #[.bool false, .string ⟨#[]⟩]) n (Nat.le_refl _) (by unfold maxLen; omega)
  have s0 := (Below.refl w.heap.size w).alloc (Nat.le_refl _) (.cells (zarr (.agg #[.bool false, .string ⟨#[]⟩]) n) 28)
  have HR := Lib.hid hr; clear hr
  have HN := Lib.hid hn; clear hn
  have HADD := Lib.hid hadd; clear hadd
  have HMADE := Lib.hid hmade; clear hmade
  have S0 := Lib.hid s0; clear s0
  clear hs
  go_enter Tryz.func55, Tryz.ntmps55
  rw [← HN.out]
  go_wp2_with fail
  go_loopw [3, 5, 11] (fun u _ i wr => ∃ k : Nat, k ≤ n ∧ i = .int .i64 k ∧ wr.ownsRow w.heap.size 28 2 u k (civ (l.take k)) ∧ Below w.heap.size w wr) (fun _ _ i _ => n - (intOf i).toNat)
  case atStart => exact ⟨0, Nat.zero_le _, rfl, HMADE.out, S0.out⟩
  case round =>
    obtain ⟨k, hk, rfl, hown, hbel⟩ := hrel
    have hsz : w.heap.size ≤ wr.heap.size := hbel.size
    obtain ⟨wo, rfl⟩ : ∃ wo : World, wo = wr := ⟨_, rfl⟩
    by_cases hlt : k < n
    · have hkl : k < l.length := by rw [← HN.out]; exact hlt
      have hget : l[k]? = some (l[k]'hkl) := List.getElem?_eq_getElem _
      obtain ⟨x, hx⟩ : ∃ x, x = l[k]'hkl := ⟨_, rfl⟩
      rw [← hx] at hget
      have haddx := HADD.out x (by rw [hx]; exact List.getElem_mem _)
      have hz2 : civ (l.take (k + 1)) = civ (l.take k) ++ [.bool (ineg x), .string (imag x)] := by
        rw [List.take_add_one, hget]; exact civ_snoc _ _
      obtain ⟨b1, o1, rfl, hb1, hbc⟩ := HR.out.at_ (by omega)
      obtain ⟨c0, c1⟩ := int_cells hbc hbel hb1 hget
      obtain ⟨a, cap, rfl⟩ := own_slice hown
      have hix1 : (0 : Int) ≤ (k : Int) := by omega
      have hix2 : (k : Int) < (n : Int) := by omega
      have ho1 := hown.alloc (.cells #[.bool (ineg x), .string (imag x)] 28)
      have s1 := hbel.alloc hsz (.cells #[.bool (ineg x), .string (imag x)] 28)
      have bx := Blk.new wo 28 [.bool (ineg x), .string (imag x)]
      have d0 := bx.cell (j := 0) rfl
      have d1 := bx.cell (j := 1) rfl
      have HO1 := Lib.hid ho1; clear ho1
      have S1 := Lib.hid s1; clear s1
      have HZ2 := Lib.hid hz2; clear hz2
      have HADDX := Lib.hid haddx; clear haddx
      clear hx hget hbc hkl bx hown
      go_wp2_with fail
      go_at_call 44
      refine (HADDX.out _).mono ?_
      rintro e w2 ⟨hq2, rfl⟩
      have ho2 := own_below HO1.out hq2
      have hb2 := S1.out.trans (hq2.mono S1.out.size)
      have hsz2 : w.heap.size ≤ w2.heap.size := hb2.size
      have HO2 := Lib.hid ho2; clear ho2
      have HB2 := Lib.hid hb2; clear hb2
      clear hq2 d0 d1 c0 c1
      go_wp2_with (at_builtin; refine wpList_append_lies _ rfl (.tmp 15) (.tmp 19) 32 rfl w.heap.size 28 i0 _ 2 24 Tryz.underlying32 hi hz0 hz1' hz2' rfl (by decide) _ _ _ rfl (HO2.out.alloc _) _ 1 1 [.bool (ineg x), .string (imag x)] rfl rfl (World.news_of_block (heap_alloc_new _ _)) (by simp [Value.oneCell']) (by omega) (by unfold maxLen; omega) (by omega) (by simp; omega) _ rfl ?_; intro g cap' w3 hown' hg hat hlt'; have HG := Lib.hid hg; clear hg; have HO4 := Lib.hid hown'; clear hown'; have HAT := Lib.hid hat; clear hat)
      go_roundw
      case rel =>
        refine ⟨k + 1, by omega, by go_num, ?_, (HB2.out.alloc hsz2 _).grown HG.out (by simp; omega) (fun j hj => (HO2.out.lt j hj).1)⟩
        rw [HZ2.out]; exact HO4.out
      case measure => simp [intOf]; omega
    · obtain rfl : k = n := by omega
      have htk : l.take k = l := List.take_of_length_le (by rw [← HN.out]; exact Nat.le_refl _)
      rw [htk] at hown
      have hrow := own_row hown
      have HROW := Lib.hid hrow; clear hrow
      have HB := Lib.hid hbel; clear hbel
      clear hown htk hlt hk
      go_wp2_with fail
      go_loopw [3] (fun u wr => ∃ m : Nat, m ≤ k ∧ Row wr u m (civ (l.take m)) ∧ tzI (l.take m) = tzI l ∧ Below wo.heap.size wo wr) (fun u _ => slLen u)
      case atStart => exact ⟨k, Nat.le_refl _, by rw [List.take_of_length_le (by rw [← HN.out]; exact Nat.le_refl _)]; exact HROW.out, by rw [List.take_of_length_le (by rw [← HN.out]; exact Nat.le_refl _)], Below.refl _ _⟩
      case round =>
        obtain ⟨m, hm, hrw, htz, hbw⟩ := hrel
        have s2 := HB.out.trans (hbw.mono HB.out.size)
        obtain ⟨ua, uc, rfl, hule⟩ := hrw.slice
        have HTZ := Lib.hid htz; clear htz
        have HBW := Lib.hid hbw; clear hbw
        have S2 := Lib.hid s2; clear s2
        cases m with
        | zero =>
          have HRW := Lib.hid hrw; clear hrw
          go_wp2_with fail
          go_ret
          refine ⟨S2.out, _, rfl, ?_⟩
          rw [← HTZ.out]
          exact HRW.out
        | succ m =>
          have hml : m < l.length := by rw [← HN.out]; omega
          have hget : l[m]? = some (l[m]'hml) := List.getElem?_eq_getElem _
          obtain ⟨x, hx⟩ : ∃ x, x = l[m]'hml := ⟨_, rfl⟩
          rw [← hx] at hget
          have htake : l.take (m + 1) = l.take m ++ [x] := by rw [List.take_add_one, hget]; rfl
          have hget2 : (l.take (m + 1))[m]? = some x := by rw [List.getElem?_take, if_pos (by omega)]; exact hget
          obtain ⟨b1, o1, rfl, hb1, hbc⟩ := hrw.at_ (by omega)
          obtain ⟨c0, c1⟩ := int_cells hbc (Below.refl wr.heap.size wr) hb1 hget2
          have hez := fun w' => eqIn_zero x w'
          have hpos : (0 : Int) < ((m : Int) + 1) := by omega
          have hcap : m + 1 ≤ uc := by
            rcases id hrw with ⟨h1, -, -⟩ | ⟨b, off, cap, h1, h2, h3, h4, h5⟩
            · cases h1
            · cases h1; exact h2
          have hcap1 : m ≤ uc := by omega
          have hcap0 : ¬ uc = 0 := by omega
          have hcut : Row wr (.slice (some ⟨b1, o1, none⟩) m uc) m (civ (l.take m)) := by
            rcases id hrw with ⟨h1, -, -⟩ | ⟨b, off, cap, h1, h2, h3, h4, h5⟩
            · cases h1
            · cases h1
              refine .inr ⟨_, _, _, rfl, by omega, h3, h4, fun j u hu => h5 j u ?_⟩
              rw [htake, civ_append, List.getElem?_append_left (List.getElem?_eq_some_iff.1 hu).1]
              exact hu
          have HCUT := Lib.hid hcut; clear hcut
          by_cases h0 : x = 0
          · have hnx : tzI (l.take m) = tzI l := by rw [← HTZ.out, htake, h0, tzI_snoc_zero]
            rw [decide_eq_true h0] at hez
            have HNX := Lib.hid hnx; clear hnx
            clear hbc hget hget2 htake h0 hrw hml hx
            go_wp2_with fail
            go_roundw
            case rel => exact ⟨m, by omega, HCUT.out, HNX.out, HBW.out⟩
            case measure => simp [slLen]
          · have hfin : tzI l = l.take (m + 1) := by rw [← HTZ.out, htake, tzI_snoc_ne _ h0]
            rw [decide_eq_false h0] at hez
            have hlen : (tzI l).length = m + 1 := by rw [hfin, List.length_take]; omega
            have HFIN := Lib.hid hfin; clear hfin
            have HLEN := Lib.hid hlen; clear hlen
            have HRW := Lib.hid hrw; clear hrw
            clear hbc hget hget2 htake h0 hml hx
            go_wp2_with fail
            go_ret
            refine ⟨S2.out, _, rfl, ?_⟩
            rw [HLEN.out, HFIN.out]
            exact HRW.out
end Go.Proofs.YthpgeeaccmgbkaaGreat

