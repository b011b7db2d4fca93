/- Contracts and plain laws of several functions, one after the other: EdgeA, TabB, CloneI, Ints. -/
import Derived.Laws.StructEq
import Derived.Deep.RegionHeld3
import Derived.Deep.QuietTactic
import Derived.Lib.SliceRun
import Derived.Test.YthpgeeaccmgbkaaCheck
import Derived.Test.YthpgeeaccmgbkaaPart15
/- The contracts of slices.Equal, slices.Clone and slices.Compact at edges; nothing that was there is changed. -/
namespace Go.Proofs.Ythpgeeaccmgbkaa
open Go.RowKit

theorem eqType : Try.prog.underlying 48 = some (.struct (Try.prog.fieldsOf 48)) := by kernel_rfl
theorem eqStood : Try.prog.stoodInHeld 48 = false := by kernel_rfl
theorem eqFlds : (Try.prog.fieldsOf 48).toList.map (fun f => (f.type, f.offset, f.name == "_")) = [(3, 0, false), (3, 1, false), (3, 2, false)] := by kernel_rfl
theorem partInt (xs : Array Value) (i : Nat) (v : Value) (h : xs[i]? = some v) (w : World) : (Go.part 3 xs i).run Try.prog w = .ok v w := by
  simp [Go.part, Try.isAgg3, h]
set_option maxRecDepth 100000 in
theorem eqIn_edge (a b : E3) (w : World) : (Op.equalIn 10000 48 a.val b.val).run Try.prog w = .ok (decide (a = b)) w := by
  have e : ∀ fs, (Try.prog.fieldsOf 48).toList = fs → (Op.eqFields 9999 #[.int .i64 a.f, .int .i64 a.l, .int .i64 a.t] #[.int .i64 b.f, .int .i64 b.l, .int .i64 b.t] fs).run Try.prog w = .ok (decide (a = b)) w := by
    intro fs hfs
    have hm := eqFlds
    rw [hfs] at hm
    match fs, hm with
    | [f0, f1, f2], hm =>
      simp only [List.map_cons, List.map_nil, List.cons.injEq, Prod.mk.injEq, and_true] at hm
      obtain ⟨⟨t0, o0, n0⟩, ⟨t1, o1, n1⟩, ⟨t2, o2, n2⟩⟩ := hm
      rw [beq_eq_false_iff_ne] at n0 n1 n2
      simp [Op.eqFields, n0, n1, n2, t0, o0, t1, o1, t2, o2, Go.part, Try.isAgg3, run_equalIn_int, Try.underlying3]
      have he : (a = b) ↔ a.f = b.f ∧ a.l = b.l ∧ a.t = b.t := by cases a; cases b; simp
      by_cases h1 : a.f = b.f <;> by_cases h2 : a.l = b.l <;> by_cases h3 : a.t = b.t <;> simp [he, h1, h2, h3]
  exact (run_equalIn_struct (P := Try.prog) w 9999 48 _ _ eqType eqStood).trans (e _ rfl)
theorem neq_edge (a b : E3) (w : World) : (binOp .neq 48 a.val b.val).run Try.prog w = .ok (.bool (!decide (a = b))) w := by
  rw [run_neq_struct, eqIn_edge]; rfl
theorem eql_edge (a b : E3) (w : World) : (binOp .eql 48 a.val b.val).run Try.prog w = .ok (.bool (decide (a = b))) w := by
  rw [run_eql_struct, eqIn_edge]; rfl

/-- The cells of an edge of a slice, in a world in which nothing of it has changed. -/
theorem edge_cells {w w' : World} {B b off : Nat} {es : List E3} {k : Nat} {e : E3} (hce : ∀ (j : Nat) (u : Value), (ce es)[j]? = some u → w.cell? ⟨b, off + j, none⟩ = some u) (hb : Below B w w') (hlt : b < B) (h : es[k]? = some e) :
    w'.cell? ⟨b, off + k * 3, none⟩ = some (.int .i64 e.f) ∧ w'.cell? ⟨b, off + k * 3 + 1, none⟩ = some (.int .i64 e.l) ∧ w'.cell? ⟨b, off + k * 3 + 2, none⟩ = some (.int .i64 e.t) :=
  ⟨(hb.cell (p := ⟨b, off + k * 3, none⟩) hlt).trans (hce (k * 3) _ (ce_get (j := 0) h rfl)), (hb.cell (p := ⟨b, off + k * 3 + 1, none⟩) hlt).trans (hce (k * 3 + 1) _ (ce_get (j := 1) h rfl)), (hb.cell (p := ⟨b, off + k * 3 + 2, none⟩) hlt).trans (hce (k * 3 + 2) _ (ce_get (j := 2) h rfl))⟩

end Go.Proofs.Ythpgeeaccmgbkaa

/- Tables of integers in memory. -/
namespace Go.Proofs.Ythpgeeaccmgbkaa
open Go.RowKit

/-- A row, a table in blocks from B on. -/
def RowB (B : Nat) (w : World) (v : Value) (n : Nat) (xs : List Value) : Prop := Row w v n xs ∧ ∀ k, v.ownBlock = some k → B ≤ k
def TabB (B : Nat) (w : World) (v : Value) (rows : List (List Int)) : Prop :=
  ∃ rvs : List Value, rvs.length = rows.length ∧ RowB B w v rows.length rvs ∧ ∀ (i : Nat) (r : List Int), rows[i]? = some r → ∃ rv : Value, rvs[i]? = some rv ∧ RowB B w rv r.length (civ r)
theorem TabB.tab {B : Nat} {w : World} {v : Value} {rows : List (List Int)} (h : TabB B w v rows) : Tab w v rows := by
  obtain ⟨rvs, h1, h2, h3⟩ := h
  exact ⟨rvs, h1, h2.1, fun i r hr => by obtain ⟨rv, h4, h5⟩ := h3 i r hr; exact ⟨rv, h4, h5.1⟩⟩
theorem rowB_put {B : Nat} {w : World} {v : Value} {n : Nat} {xs : List Value} (h : RowB B w v n xs) {d : Nat} (hd : d < B) (j : Nat) (u : Value) : RowB B (w.setCell ⟨d, j, none⟩ u) v n xs := by
  refine ⟨?_, h.2⟩
  rcases h.1 with h1 | ⟨b, off, cap, rfl, h1, h2, h3, h4⟩
  · exact .inl h1
  · have hb : B ≤ b := h.2 b rfl
    refine .inr ⟨b, off, cap, rfl, h1, h2, by simpa using h3, fun i x hx => ?_⟩
    rw [World.cell?_setCell_far _ _ _ _ (fun e => by simp at e; omega)]
    exact h4 i x hx
theorem TabB.put {B : Nat} {w : World} {v : Value} {rows : List (List Int)} (h : TabB B w v rows) {d : Nat} (hd : d < B) (j : Nat) (u : Value) : TabB B (w.setCell ⟨d, j, none⟩ u) v rows := by
  obtain ⟨rvs, h1, h2, h3⟩ := h
  exact ⟨rvs, h1, rowB_put h2 hd j u, fun i r hr => by obtain ⟨rv, h4, h5⟩ := h3 i r hr; exact ⟨rv, h4, rowB_put h5 hd j u⟩⟩
theorem TabB.below {B C : Nat} {w w' : World} {v : Value} {rows : List (List Int)} (h : TabB B w v rows) (k : Below C w w') (hC : w.heap.size ≤ C) : TabB B w' v rows := by
  obtain ⟨rvs, h1, h2, h3⟩ := h
  exact ⟨rvs, h1, ⟨h2.1.below k hC, h2.2⟩, fun i r hr => by obtain ⟨rv, h4, h5⟩ := h3 i r hr; exact ⟨rv, h4, h5.1.below k hC, h5.2⟩⟩
def TabRet (w : World) (rows : List (List Int)) (e : Ending) (w' : World) : Prop := Below w.heap.size w w' ∧ ∃ v, e = .returned v ∧ TabB w.heap.size w' v rows
/-- The rows from 0 to n. -/
def tabL (es : List E3) (S : Nat) (p : Int → Bool) (n : Nat) : List (List Int) := (List.range (n + 1)).map (rowK es S p)
theorem tabL_length (es : List E3) (S : Nat) (p : Int → Bool) (n : Nat) : (tabL es S p n).length = n + 1 := by simp [tabL]
theorem tabL_get {es : List E3} {S : Nat} {p : Int → Bool} {n i : Nat} (h : i < n + 1) : (tabL es S p n)[i]? = some (rowK es S p i) := by simp [tabL, h]
/-- The rows that lie in memory. -/
def RowsAt (B : Nat) (w : World) (es : List E3) (S : Nat) (p : Int → Bool) (k : Nat) (rvs : List Value) : Prop :=
  ∀ i, i ≤ k → ∃ b, B ≤ b ∧ rvs[i]? = some (.slice (some ⟨b, 0, none⟩) S S) ∧ Blk w b 28 (civ (rowK es S p i))
theorem RowsAt.keep {B : Nat} {w w' : World} {es : List E3} {S : Nat} {p : Int → Bool} {k : Nat} {rvs : List Value} (h : RowsAt B w es S p k rvs) (hq : Below w.heap.size w w') : RowsAt B w' es S p k rvs :=
  fun i hi => by obtain ⟨b, h0, h1, h2⟩ := h i hi; exact ⟨b, h0, h1, h2.keep hq⟩
theorem RowsAt.grown {B : Nat} {w w' : World} {es : List E3} {S : Nat} {p : Int → Bool} {k : Nat} {rvs : List Value} {row : Option Nat} (h : RowsAt B w es S p k rvs) (hg : w.grownBy w' row) (hne : ∀ b ys, Blk w b 28 ys → row ≠ some b) : RowsAt B w' es S p k rvs :=
  fun i hi => by obtain ⟨b, h0, h1, h2⟩ := h i hi; exact ⟨b, h0, h1, h2.grown hg (hne b _ h2)⟩
theorem RowsAt.snoc {B : Nat} {w : World} {es : List E3} {S : Nat} {p : Int → Bool} {k b : Nat} {rvs : List Value} (h : RowsAt B w es S p k rvs) (hl : rvs.length = k + 1) (hB : B ≤ b) (hb : Blk w b 28 (civ (rowK es S p (k + 1)))) : RowsAt B w es S p (k + 1) (rvs ++ [.slice (some ⟨b, 0, none⟩) S S]) := fun i hi => by
  by_cases h1 : i ≤ k
  · obtain ⟨b', h0, h2, h3⟩ := h i h1
    exact ⟨b', h0, by rw [List.getElem?_append_left (by omega)]; exact h2, h3⟩
  · obtain rfl : i = k + 1 := by omega
    exact ⟨b, hB, by rw [List.getElem?_append_right (by omega), hl]; simp, hb⟩
theorem infoRow : (Try.prog.info? 38).map (fun i => (i.zero, i.size, i.bytes)) = some (some (.slice none 0 0), 1, 24) := by kernel_rfl

end Go.Proofs.Ythpgeeaccmgbkaa

/- slices.Clone at integers. -/
namespace Go.Proofs.Ythpgeeaccmgbkaa
open Go.RowKit

/-- A slice of integers of its own. -/
def IntsRet (w : World) (l : List Int) (e : Ending) (w' : World) : Prop :=
  Below w.heap.size w w' ∧ ∃ v, e = .returned v ∧ w'.ownsRow w.heap.size 28 2 v l.length (civ l)
set_option maxRecDepth 100000 in
set_option maxHeartbeats 3200000 in
theorem cloneI_any (l : List Int) (v : Value) (w : World) (hr : Row w v l.length (civ l)) (hlen : l.length ≤ 1000000000) :
    Calls Try.prog 45 #[v] w (IntsRet w l) := by
  rcases hr with ⟨rfl, h1, h2⟩ | ⟨b, off, cap, rfl, h1, h2, h3, h4⟩
  · have hd : l = [] := List.length_eq_zero_iff.1 h1
    subst hd
    clear h1 h2
    have hnil := fun (wx : World) => Lib.run_eql_slice_nil (P := Try.prog) wx 38 28 none 0 0 0 0 Try.underlying38
    simp only [Option.isNone_none] at hnil
    go_enter Try.func45, Try.ntmps45
    go_wp2_with fail
    go_ret
    exact ⟨Below.refl _ _, .slice none 0 0, rfl, World.ownsRow_nil _ _ _ _⟩
  · have hnil := fun (wx : World) => Lib.run_eql_slice_nil (P := Try.prog) wx 38 28 (some ⟨b, off, none⟩) l.length cap 0 0 Try.underlying38
    simp only [Option.isNone_some] at hnil
    obtain ⟨i0, hi, hz0, hz1, hz2⟩ := info_parts infoZ
    have hm0 := World.ownsRow_made w (#[] : Array Value) 0 (base := w.heap.size) (e := 28) (size := 2) (Nat.le_refl _) (Nat.zero_le _) rfl
    have hc : ∀ (j : Nat) (u : Value), (civ l)[j]? = some u → (w.alloc (.cells #[] 28)).cell? ((⟨b, off, none⟩ : Addr).add j) = some u := by
      intro j u hu
      have e : (⟨b, off, none⟩ : Addr).add j = ⟨b, off + j, none⟩ := by
        unfold Addr.add
        split
        · rename_i h0; subst h0; rfl
        · rfl
      rw [e, below_new w _ h3]; exact h4 j u hu
    have h1c : ∀ u ∈ civ l, u.oneCell' = true := by
      intro u hu
      simp only [civ, List.mem_flatMap] at hu
      obtain ⟨e, _, hu⟩ := hu
      simp only [List.mem_cons, List.not_mem_nil, or_false] at hu
      rcases hu with rfl | rfl <;> rfl
    have hcl := civ_length l
    have HM0 := Lib.hid hm0; clear hm0
    have HC := Lib.hid hc; clear hc
    have H1C := Lib.hid h1c; clear h1c
    have HCL := Lib.hid hcl; clear hcl
    clear h4
    go_enter Try.func45, Try.ntmps45
    go_wp2_with (at_builtin; refine wpList_append_own _ rfl (.tmp 5) (.tmp 6) 38 rfl w.heap.size 28 i0 _ 2 24 Try.underlying38 hi hz0 hz1 hz2 rfl (by decide) _ _ _ rfl HM0.out _ _ _ (civ l) rfl HCL.out HC.out H1C.out (by unfold maxLen; omega) (by omega) (by simp) ?_; intro v' w1 hown hg hnn)
    rw [Nat.zero_add, List.nil_append] at hown
    have HO := Lib.hid hown; clear hown
    have HG := Lib.hid hg; clear hg
    clear hnn
    go_wp2_with fail
    go_ret
    exact ⟨((Below.refl w.heap.size w).alloc (Nat.le_refl _) _).grown HG.out (by simp) (fun k hk => by cases hk; exact Nat.le_refl _), v', rfl, HO.out⟩
/-- An owned slice of integers as a block. -/
theorem own_blkI {w : World} {base n : Nat} {e : TypeId} {v : Value} {l : List Int} (h : w.ownsRow base e 2 v n (civ l)) (hn : n ≠ 0) (hl : l.length = n) : ∃ g cap rest, v = .slice (some ⟨g, 0, none⟩) n cap ∧ base ≤ g ∧ Blk w g e (civ l ++ rest) ∧ n ≤ cap ∧ cap ≤ maxLen := by
  rcases h.2 with ⟨_, h0⟩ | ⟨g, cap, cur, hv, h1, h2, h3, h4, h5, h6⟩
  · exact absurd h0 hn
  · refine ⟨g, cap, cur.toList.drop (n * 2), hv, h1, ?_, h3, h4⟩
    have e1 : civ l ++ cur.toList.drop (n * 2) = cur.toList := by
      rw [← h6, List.take_append_drop]
    rw [e1]
    unfold Blk; rw [Array.toArray_toList]; exact h2
/-- A block's beginning as a slice. -/
theorem blk_rowI {w : World} {b cap : Nat} {l : List Int} {rest : List Value} (h : Blk w b 28 (civ l ++ rest)) (h1 : l.length ≤ cap) (h2 : cap ≤ maxLen) : Row w (.slice (some ⟨b, 0, none⟩) l.length cap) l.length (civ l) := by
  have h3 := Row.ofBlk h (m := l.length) (cap := cap) h1 h2 (civ l).length
  rwa [List.take_left] at h3
end Go.Proofs.Ythpgeeaccmgbkaa

/- groovelaw22.ints. -/
namespace Go.Proofs.Ythpgeeaccmgbkaa
open Go.RowKit

theorem civ_snoc (l : List Int) (z : Int) : civ (l ++ [z]) = civ l ++ [.bool (ineg z), .string (imag z)] := by simp [civ]
set_option maxRecDepth 100000 in
set_option maxHeartbeats 3200000 in
theorem ints_any (l : List Int) (v : Value) (w : World) (hr : Row w v l.length (ci l)) (hl : l.length ≤ 100000) (hs : ∀ x ∈ l, -9223372036854775808 ≤ x ∧ x ≤ 9223372036854775807) :
    Calls Try.prog 28 #[v] w (IntsRet w l) := by
  obtain ⟨va, vc, rfl, hle⟩ := hr.slice
  obtain ⟨i0, hi, hz0, hz1', hz2'⟩ := info_parts infoZ
  obtain ⟨n, hn⟩ : ∃ n, n = l.length := ⟨_, rfl⟩
  have hof := fun x (hx : x ∈ l) w' => iof_any x w' (hs x hx).1 (hs x hx).2
  rw [← hn] at hr hle hl
  have HR := Lib.hid hr; clear hr
  have HN := Lib.hid hn; clear hn
  have HOF := Lib.hid hof; clear hof
  clear hs
  go_enter Try.func28, Try.ntmps28
  rw [← HN.out]
  go_wp2_with fail
  go_loopw [3, 5, 8] (fun u _ i wr => ∃ k : Nat, k ≤ n ∧ i = .int .i64 k ∧ wr.ownsRow w.heap.size 28 2 u k (civ (l.take k)) ∧ Below w.heap.size w wr) (fun _ _ i _ => n - (intOf i).toNat)
  case atStart => exact ⟨0, Nat.zero_le _, rfl, World.ownsRow_nil _ _ _ _, Below.refl _ _⟩
  case round =>
    obtain ⟨k, hk, rfl, hown, hbel⟩ := hrel
    have hsz : w.heap.size ≤ wr.heap.size := hbel.size
    by_cases hlt : k < n
    · have hkl : k < l.length := by rw [← HN.out]; exact hlt
      have hget : l[k]? = some (l[k]'hkl) := List.getElem?_eq_getElem _
      obtain ⟨x, hx⟩ : ∃ x, x = l[k]'hkl := ⟨_, rfl⟩
      rw [← hx] at hget
      have hofx := HOF.out x (by rw [hx]; exact List.getElem_mem _)
      have hz2 : civ (l.take (k + 1)) = civ (l.take k) ++ [.bool (ineg x), .string (imag x)] := by
        rw [List.take_add_one, hget]; exact civ_snoc _ _
      obtain ⟨b1, o1, rfl, hb1, hbc⟩ := HR.out.at_ (by omega)
      have hbj : wr.cell? ⟨b1, o1 + k, none⟩ = some (.int .i64 x) := (hbel.cell (p := ⟨b1, o1 + k, none⟩) hb1).trans (hbc k _ (by simp [ci, hget]))
      obtain ⟨a, cap, rfl⟩ := own_slice hown
      have hix1 : (0 : Int) ≤ (k : Int) := by omega
      have hix2 : (k : Int) < (n : Int) := by omega
      have HO := Lib.hid hown; clear hown
      have HB := Lib.hid hbel; clear hbel
      have HZ2 := Lib.hid hz2; clear hz2
      have HOFX := Lib.hid hofx; clear hofx
      clear hx hget hbc hkl
      go_wp2_with fail
      go_at_call 11
      refine (HOFX.out _).mono ?_
      rintro e w2 ⟨hq2, rfl⟩
      have ho2 := own_below HO.out hq2
      have hb2 := HB.out.trans (hq2.mono HB.out.size)
      have hsz2 : w.heap.size ≤ w2.heap.size := hb2.size
      have HO2 := Lib.hid ho2; clear ho2
      have HB2 := Lib.hid hb2; clear hb2
      clear hq2
      go_wp2_with (at_builtin; refine wpList_append_lies _ rfl (.tmp 12) (.tmp 15) 38 rfl w.heap.size 28 i0 _ 2 24 Try.underlying38 hi hz0 hz1' hz2' rfl (by decide) _ _ _ rfl (HO2.out.alloc _) _ 1 1 [.bool (ineg x), .string (imag x)] rfl rfl (World.news_of_block (heap_alloc_new _ _)) (by simp [Value.oneCell']) (by omega) (by unfold maxLen; omega) (by omega) (by simp; omega) _ rfl ?_; intro g cap' w3 hown' hg hat hlt'; have HG := Lib.hid hg; clear hg; have HO4 := Lib.hid hown'; clear hown'; have HAT := Lib.hid hat; clear hat)
      go_roundw
      case rel =>
        refine ⟨k + 1, by omega, by go_num, ?_, (HB2.out.alloc hsz2 _).grown HG.out (by simp; omega) (fun j hj => (HO2.out.lt j hj).1)⟩
        rw [HZ2.out]; exact HO4.out
      case measure => simp [intOf]; omega
    · obtain rfl : k = n := by omega
      have htk : l.take k = l := List.take_of_length_le (by rw [← HN.out]; exact Nat.le_refl _)
      rw [htk] at hown
      have HO := Lib.hid hown; clear hown
      have HB := Lib.hid hbel; clear hbel
      go_wp2_with fail
      go_ret
      exact ⟨HB.out, _, rfl, by rw [← HN.out]; exact HO.out⟩
end Go.Proofs.Ythpgeeaccmgbkaa

