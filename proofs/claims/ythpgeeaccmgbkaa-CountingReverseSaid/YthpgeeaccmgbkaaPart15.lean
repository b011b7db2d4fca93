/- Contracts and plain laws of several functions, one after the other: AppRow, ERow, NumC, EqI. -/
import Derived.Laws.OwnMore
import Derived.Maps.AppendAt
import Derived.Deep.RegionHeld3
import Derived.Deep.AppendLies
import Derived.BigQuiet
import Derived.Test.YthpgeeaccmgbkaaPart4
import Derived.Test.YthpgeeaccmgbkaaPart9
import Derived.Test.YthpgeeaccmgbkaaIntB
import Derived.Test.YthpgeeaccmgbkaaICheckA
import Derived.Test.YthpgeeaccmgbkaaPart6
/- append of a whole row (nil or not, empty or not) to a slice of the call's own: at a step of a region that draws its order. -/
namespace Go.Proofs.Ythpgeeaccmgbkaa
open Go.RowKit

theorem run_append_row {P : Program} (w : World) (base : Nat) (t ty e : TypeId) (z : Value) (size bytes : Nat) (ht : P.underlying t = some (.slice e)) (hinfo : (P.info? e).map (fun i => (i.zero, i.size, i.bytes)) = some (some z, size, bytes))
    (hzs : z.cells.size = size) (hsz : 0 < size) (v : Value) (n : Nat) (xs : List Value) (hown : w.ownsRow base e size v n xs)
    (sv : Value) (m : Nat) (news : List Value) (hrow : Row w sv m news) (hl : news.length = m * size) (h1 : ∀ u ∈ news, u.oneCell' = true)
    (h63 : n + m ≤ maxLen) (hbytes : (n + m) * bytes ≤ 140737488355328) (hbase : base ≤ w.heap.size) :
    ∃ v' w', (Builtin.append_ #[t, t] ty #[v, sv]).run P w = .ok v' w' ∧ w'.ownsRow base e size v' (n + m) (xs ++ news) ∧ w.grownBy w' v.ownBlock := by
  obtain ⟨i, hi, hz0, hz1, hz2⟩ := info_parts hinfo
  rcases hrow with ⟨rfl, rfl, rfl⟩ | ⟨b, off, cap, rfl, h2, h3, h4, h5⟩
  · refine ⟨v, w, run_append_owned_none (P := P) (w := w) base t ty e i size ht hi v n xs hown, by simpa using hown, ⟨rfl, rfl, rfl, Nat.le_refl _, fun _ _ _ => rfl⟩⟩
  · obtain ⟨v', w', r1, r2, r3, -⟩ := run_append_own_at (P := P) w base t ty e i z size bytes ht hi hz0 hz1 hz2 hzs hsz v n xs hown ⟨b, off, none⟩ m cap news hl (fun j u hu => by
      have := h5 j u hu
      unfold Addr.add
      split
      · rename_i h0; subst h0; exact this
      · exact this) h1 h63 hbytes hbase
    exact ⟨v', w', r1, r2, r3⟩
theorem step_append_row {P : Program} {w : World} {ops : Array Oper} {o : Oper} {a : Act} {K : Act → World → Prop} {Q : Exit → Act → World → Prop} {E : Prop} (hgd : o.guard = none) (s x : Operand) (t : TypeId)
    (ho : o.op = .call { callee := .builtin .append, args := #[s, x], argTypes := #[t, t] })
    (base : Nat) (e : TypeId) (z : Value) (size bytes : Nat) (ht : P.underlying t = some (.slice e)) (hinfo : (P.info? e).map (fun i => (i.zero, i.size, i.bytes)) = some (some z, size, bytes))
    (hzs : z.cells.size = size) (hsz : 0 < size) (v : Value) (n : Nat) (xs : List Value) (hs : a.eval s = v) (hown : w.ownsRow base e size v n xs)
    (sv : Value) (m : Nat) (news : List Value) (hx : a.eval x = sv) (hrow : Row w sv m news) (hl : news.length = m * size) (h1 : ∀ u ∈ news, u.oneCell' = true)
    (h63 : n + m ≤ maxLen) (hbytes : (n + m) * bytes ≤ 140737488355328) (hbase : base ≤ w.heap.size)
    (h : ∀ v' w', w'.ownsRow base e size v' (n + m) (xs ++ news) → w.grownBy w' v.ownBlock → K (a.put o.dst v') w') :
    if Region.wanted o (yielded ops a.tmps) = true then Oper.wp P o a w K Q else E := by
  have hw : Region.wanted o (yielded ops a.tmps) = true := by simp [Region.wanted, hgd]
  rw [if_pos hw]
  obtain ⟨v', w', hr, h2, h3⟩ := run_append_row (P := P) w base t o.type e z size bytes ht hinfo hzs hsz v n xs hown sv m news hrow hl h1 h63 hbytes hbase
  unfold Oper.wp execOp
  simp only [ho, resolve, invoke, builtin, Sem.run_bind, Sem.run_pure, Result.andThen_ok, List.map_toArray, List.map_cons, List.map_nil, hs, hx, hr]
  exact h v' w' h2 h3
theorem Blk.grown {w w' : World} {b : Nat} {t : TypeId} {xs : List Value} {row : Option Nat} (h : Blk w b t xs) (hg : w.grownBy w' row) (hne : row ≠ some b) : Blk w' b t xs := h.of_block (hg.block b h.lt hne.symm)
theorem Row.le {w : World} {a : Option Addr} {m c : Nat} {xs : List Value} (h : Row w (.slice a m c) m xs) : m ≤ c := by
  rcases h with ⟨hv, hn, -⟩ | ⟨b, off, cap, hv, h1, -⟩
  · omega
  · simp only [Value.slice.injEq] at hv; omega
/-- 's[:p]' of a row. -/
theorem sl_to {P : Program} (t e : TypeId) (size : Nat) (ht : P.underlying t = some (.slice e)) (hz : ∀ w, (Go.sizeOf e).run P w = .ok size w) (a : Option Addr) (m c p : Nat) (hp : p ≤ m) (hc : m ≤ c) :
    ∃ a' c', (∀ w, (Instr.slice t (.slice a m c) none (some (.int .i64 (p : Int))) none).run P w = .ok (.slice a' p c') w) ∧
      ∀ W xs, Row W (.slice a m c) m xs → Row W (.slice a' p c') p (xs.take (p * size)) := by
  have ht' : P.underlying t = some (.slice (P.elem t)) := by simp [Program.elem, ht]
  have he : P.elem t = e := by simp [Program.elem, ht]
  refine ⟨if c = 0 then a else a.map (·.add (0 * size)), c, fun w => ?_, ?_⟩
  · rw [run_slice_h w t a m c ht' .i64 (p : Int) (by omega) (by omega), he, hz]
    simp only [Result.andThen, sliced, Int.toNat_natCast, Nat.sub_zero]
  · intro W xs h
    have h2 := h.take (p * size)
    rcases h2 with ⟨hv, hn, hx⟩ | ⟨b, off, cap, hv, h3, h4, h5, h6⟩
    · simp only [Value.slice.injEq] at hv
      obtain ⟨rfl, rfl, rfl⟩ := hv
      obtain rfl : p = 0 := by omega
      exact .inl ⟨by simp, rfl, hx⟩
    · simp only [Value.slice.injEq] at hv
      obtain ⟨rfl, -, rfl⟩ := hv
      refine .inr ⟨b, off, c, by simp [Addr.add], by omega, h4, h5, h6⟩
/-- 's[p:]' of a row. -/
theorem sl_from {P : Program} (t e : TypeId) (size : Nat) (ht : P.underlying t = some (.slice e)) (hz : ∀ w, (Go.sizeOf e).run P w = .ok size w) (hs : 0 < size) (a : Option Addr) (m c p : Nat) (hp : p ≤ m) (hc : m ≤ c) :
    ∃ a' c', (∀ w, (Instr.slice t (.slice a m c) (some (.int .i64 (p : Int))) none none).run P w = .ok (.slice a' (m - p) c') w) ∧
      ∀ W xs, Row W (.slice a m c) m xs → xs.length = m * size → Row W (.slice a' (m - p) c') (m - p) (xs.drop (p * size)) := by
  have ht' : P.underlying t = some (.slice (P.elem t)) := by simp [Program.elem, ht]
  have he : P.elem t = e := by simp [Program.elem, ht]
  refine ⟨if c = p then a else a.map (·.add (p * size)), c - p, fun w => ?_, ?_⟩
  · rw [run_slice_l w t a m c ht' .i64 (p : Int) (by omega) (by omega), he, hz]
    simp only [Result.andThen, sliced, Int.toNat_natCast]
  · intro W xs h hl
    rcases h with ⟨hv, hn, hx⟩ | ⟨b, off, cap, hv, h3, h4, h5, h6⟩
    · simp only [Value.slice.injEq] at hv
      obtain ⟨rfl, rfl, rfl⟩ := hv
      obtain rfl : p = 0 := by omega
      exact .inl ⟨by simp, by omega, by simp [hx]⟩
    · simp only [Value.slice.injEq] at hv
      obtain ⟨rfl, -, rfl⟩ := hv
      by_cases hcp : c = p
      · subst hcp
        obtain rfl : m = c := by omega
        refine .inr ⟨b, off, 0, by simp, by omega, by omega, h5, fun j u hu => ?_⟩
        rw [List.drop_of_length_le (by omega)] at hu
        simp at hu
      · refine .inr ⟨b, off + p * size, c - p, ?_, by omega, by omega, h5, fun j u hu => ?_⟩
        · rw [if_neg hcp]
          simp only [Option.map_some, Addr.add]
          split
          · rename_i h0; rw [h0]; rfl
          · rfl
        · rw [List.getElem?_drop] at hu
          have := h6 _ _ hu
          rwa [← Nat.add_assoc] at this
end Go.Proofs.Ythpgeeaccmgbkaa

/- Rows of integers: made, set, held in tables. -/
namespace Go.Proofs.Ythpgeeaccmgbkaa
open Go.RowKit

/-- Cells of integers. -/
def civ (l : List Int) : List Value := l.flatMap fun z => [.bool (ineg z), .string (imag z)]
theorem civ_length (l : List Int) : (civ l).length = l.length * 2 := by
  induction l with
  | nil => rfl
  | cons e l ih => simp only [civ, List.flatMap_cons, List.length_append, List.length_cons] at ih ⊢; rw [ih]; simp; omega
theorem civ_append (l k : List Int) : civ (l ++ k) = civ l ++ civ k := by simp [civ]
theorem civ_cons (z : Int) (l : List Int) : civ (z :: l) = .bool (ineg z) :: .string (imag z) :: civ l := by simp [civ]
theorem civ_get {l : List Int} {k : Nat} {z : Int} (h : l[k]? = some z) : (civ l)[k * 2]? = some (.bool (ineg z)) ∧ (civ l)[k * 2 + 1]? = some (.string (imag z)) := by
  induction l generalizing k with
  | nil => simp at h
  | cons x l ih =>
    cases k with
    | zero => simp at h; subst h; exact ⟨rfl, rfl⟩
    | succ k =>
      have := ih (k := k) (by simpa using h)
      rw [civ, List.flatMap_cons]
      have e1 : (k + 1) * 2 = k * 2 + 2 := by omega
      rw [e1]
      exact this
theorem civ_set (l : List Int) (k : Nat) (z : Int) : ((civ l).set (k * 2) (.bool (ineg z))).set (k * 2 + 1) (.string (imag z)) = civ (l.set k z) := by
  induction l generalizing k with
  | nil => rfl
  | cons x l ih =>
    cases k with
    | zero => rfl
    | succ k =>
      rw [List.set_cons_succ, civ_cons, civ_cons, show (k + 1) * 2 = k * 2 + 1 + 1 by omega, List.set_cons_succ, List.set_cons_succ, List.set_cons_succ, List.set_cons_succ, ih]
/-- The cells of an integer of a slice, in a world in which nothing of it has changed. -/
theorem int_cells {w w' : World} {B b off : Nat} {l : List Int} {k : Nat} {z : Int} (hce : ∀ (j : Nat) (u : Value), (civ l)[j]? = some u → w.cell? ⟨b, off + j, none⟩ = some u) (hb : Below B w w') (hlt : b < B) (h : l[k]? = some z) :
    w'.cell? ⟨b, off + k * 2, none⟩ = some (.bool (ineg z)) ∧ w'.cell? ⟨b, off + k * 2 + 1, none⟩ = some (.string (imag z)) :=
  ⟨(hb.cell (p := ⟨b, off + k * 2, none⟩) hlt).trans (hce (k * 2) _ (civ_get h).1), (hb.cell (p := ⟨b, off + k * 2 + 1, none⟩) hlt).trans (hce (k * 2 + 1) _ (civ_get h).2)⟩
/-- An integer is not too long. -/
def small (z : Int) : Prop := (imag z).size ≤ 1099511627775
theorem small_of {z : Int} {m : Nat} (h : z.natAbs < 256 ^ m) (hm : m ≤ 1099511627775) : small z := by
  unfold small; rw [imag_size]; exact Nat.le_trans (bb_length_le h) hm
theorem infoZ : (Try.prog.info? 28).map (fun i => (i.zero, i.size, i.bytes)) = some (some (.agg #[.bool false, .string ⟨#[]⟩]), 2, 24) := by kernel_rfl
theorem ineg_zero : ineg 0 = false := rfl
theorem imag_zero : imag 0 = ⟨#[]⟩ := by simp [imag, bb_zero]
theorem zrow_int (c : Nat) : zrow (.agg #[.bool false, .string ⟨#[]⟩]) c = civ (List.replicate c 0) := by
  induction c with
  | zero => rfl
  | succ c ih =>
    rw [List.replicate_succ, civ_cons, ineg_zero, imag_zero, ← ih]
    simp [zrow, List.replicate_succ, Value.cells]
/-- 'make([]api.Int, n)'. -/
theorem mkI (n : Nat) (h : n ≤ 1000000) (N : Int) (hN : N = (n : Int)) (w : World) : (Instr.makeSlice 38 (.int .i64 N) (.int .i64 N)).run Try.prog w = .ok (.slice (some ⟨w.heap.size, 0, none⟩) n n) (w.alloc (.cells (zarr (.agg #[.bool false, .string ⟨#[]⟩]) n) 28)) :=
  mk_slice 38 28 _ 2 24 Try.underlying38 infoZ rfl .i64 .i64 n n (Nat.le_refl _) (by omega) (by omega) N N hN hN w
theorem blk_mkI (w : World) (n : Nat) : Blk (w.alloc (.cells (zarr (.agg #[.bool false, .string ⟨#[]⟩]) n) 28)) w.heap.size 28 (civ (List.replicate n 0)) := by
  have h := Blk.zero w 28 (.agg #[.bool false, .string ⟨#[]⟩]) n
  rwa [zrow_int] at h
theorem own_ne_blk {W : World} {base : Nat} {e t : TypeId} {size n b : Nat} {v : Value} {xs ys : List Value} (h : W.ownsRow base e size v n xs) (hb : Blk W b t ys) (hne : t ≠ e) : v.ownBlock ≠ some b := by
  rcases h.2 with ⟨rfl, _⟩ | ⟨g, cap, cur, rfl, _, hg, _⟩
  · simp [Value.ownBlock]
  · intro e'
    obtain rfl : g = b := by simpa [Value.ownBlock] using e'
    unfold Blk at hb
    rw [hb] at hg
    injection hg with hg
    injection hg with h1 h2
    exact hne h2

/-- A block of integers, as a slice. -/
theorem blk_row {w : World} {b : Nat} {l : List Int} (h : Blk w b 28 (civ l)) (hl : l.length ≤ 1000000) : Row w (.slice (some ⟨b, 0, none⟩) l.length l.length) l.length (civ l) := by
  have h2 := Row.ofBlk h (m := l.length) (cap := l.length) (Nat.le_refl _) (by unfold maxLen; omega) (civ l).length
  rwa [List.take_length] at h2
/-- Tables: a slice of rows. -/
def Tab (w : World) (v : Value) (rows : List (List Int)) : Prop :=
  ∃ rvs : List Value, rvs.length = rows.length ∧ Row w v rows.length rvs ∧ ∀ (i : Nat) (r : List Int), rows[i]? = some r → ∃ rv : Value, rvs[i]? = some rv ∧ Row w rv r.length (civ r)
theorem Tab.below {w w' : World} {v : Value} {rows : List (List Int)} {B : Nat} (h : Tab w v rows) (k : Below B w w') (hB : w.heap.size ≤ B) : Tab w' v rows := by
  obtain ⟨rvs, h1, h2, h3⟩ := h
  exact ⟨rvs, h1, h2.below k hB, fun i r hr => by obtain ⟨rv, h4, h5⟩ := h3 i r hr; exact ⟨rv, h4, h5.below k hB⟩⟩
theorem Tab.drew {w : World} {v : Value} {rows : List (List Int)} (h : Tab w v rows) : Tab w.drew v rows := h
/-! ### The numbers are not too long -/
theorem cw_small {es : List E3} (hl : es.length ≤ 65536) (p : Int → Bool) (k : Nat) (hk : k ≤ 100000) (s : Int) : small (cw es p k s) := by
  have h1 := cw_nonneg es p k s
  have h2 := cw_le_len es p k s
  have h3 : es.length ^ k ≤ (256 ^ 2) ^ k := Nat.pow_le_pow_left (by omega) k
  rw [← Nat.pow_mul] at h3
  refine small_of (m := 2 * k + 1) ?_ (by omega)
  have h4 : 256 ^ (2 * k) < 256 ^ (2 * k + 1) := Nat.pow_lt_pow_right (by decide) (by omega)
  omega
theorem rowP_small {es : List E3} (hl : es.length ≤ 65536) (S : Nat) (p : Int → Bool) (k j : Nat) (hk : k ≤ 10000) {f : Nat} {x : Int} (h : (rowP es S p k j)[f]? = some x) : small x := by
  have hf : f < S := by have := (List.getElem?_eq_some_iff.1 h).1; rwa [rowP_length] at this
  rw [rowP_get hf] at h
  obtain rfl := Option.some.inj h
  have h0 : ∀ y ∈ ((es.take j).filter fun e => e.f == (f : Int)).map fun e => cw es p k e.t, 0 ≤ y ∧ y ≤ ((es.length ^ k : Nat) : Int) := by
    intro y hy
    obtain ⟨e, _, rfl⟩ := List.mem_map.1 hy
    exact ⟨cw_nonneg _ _ _ _, cw_le_len _ _ _ _⟩
  have h1 := sum_nonneg fun y hy => (h0 y hy).1
  have h2 := sum_le fun y hy => (h0 y hy).2
  rw [List.length_map] at h2
  have h3 : ((es.take j).filter fun e => e.f == (f : Int)).length ≤ es.length := Nat.le_trans (List.length_filter_le _ _) (by rw [List.length_take]; omega)
  have h4 : ((((es.take j).filter fun e => e.f == (f : Int)).length : Nat) : Int) * ((es.length ^ k : Nat) : Int) ≤ ((es.length ^ (k + 1) : Nat) : Int) := by
    rw [Nat.pow_succ, Nat.mul_comm (es.length ^ k), Int.natCast_mul]
    exact Int.mul_le_mul_of_nonneg_right (by omega) (by omega)
  have h5 : es.length ^ (k + 1) ≤ (256 ^ 2) ^ (k + 1) := Nat.pow_le_pow_left (by omega) (k + 1)
  rw [← Nat.pow_mul] at h5
  refine small_of (m := 2 * (k + 1) + 1) ?_ (by omega)
  have h6 : 256 ^ (2 * (k + 1)) < 256 ^ (2 * (k + 1) + 1) := Nat.pow_lt_pow_right (by decide) (by omega)
  omega
end Go.Proofs.Ythpgeeaccmgbkaa

/- The cells of numbers, canonical or not. -/
namespace Go.Proofs.Ythpgeeaccmgbkaa
open Go.RowKit

/-- The cells of numbers, canonical or not. -/
def cnv (l : List (Bool × ByteArray)) : List Value := l.flatMap fun x => [.bool x.1, .string x.2]
theorem cnv_get {l : List (Bool × ByteArray)} {k : Nat} {x : Bool × ByteArray} (h : l[k]? = some x) : (cnv l)[k * 2]? = some (.bool x.1) ∧ (cnv l)[k * 2 + 1]? = some (.string x.2) := by
  induction l generalizing k with
  | nil => cases h
  | cons y l ih =>
    have e : cnv (y :: l) = [.bool y.1, .string y.2] ++ cnv l := rfl
    cases k with
    | zero =>
      obtain rfl : y = x := by simpa using h
      rw [e]
      exact ⟨rfl, rfl⟩
    | succ k =>
      have h2 := ih (k := k) (by simpa using h)
      rw [e, show (k + 1) * 2 = k * 2 + 1 + 1 by omega]
      simpa using h2
theorem civ_cnv (l : List Int) : civ l = cnv (l.map fun z => (ineg z, imag z)) := by
  induction l with
  | nil => rfl
  | cons z l ih => rw [civ_cons, ih]; rfl
theorem num_cells {w w' : World} {B b off : Nat} {l : List (Bool × ByteArray)} {k : Nat} {x : Bool × ByteArray} (hce : ∀ (j : Nat) (u : Value), (cnv l)[j]? = some u → w.cell? ⟨b, off + j, none⟩ = some u) (hb : Below B w w') (hlt : b < B) (h : l[k]? = some x) :
    w'.cell? ⟨b, off + k * 2, none⟩ = some (.bool x.1) ∧ w'.cell? ⟨b, off + k * 2 + 1, none⟩ = some (.string x.2) :=
  ⟨(hb.cell (p := ⟨b, off + k * 2, none⟩) hlt).trans (hce (k * 2) _ (cnv_get h).1), (hb.cell (p := ⟨b, off + k * 2 + 1, none⟩) hlt).trans (hce (k * 2 + 1) _ (cnv_get h).2)⟩
/-- Whether there is one that is not canonical. -/
def oddB (l : List (Bool × ByteArray)) : Bool := l.any fun x => !cnB x.1 x.2
end Go.Proofs.Ythpgeeaccmgbkaa

/- slices.Equal at integers: of equal rows. -/
namespace Go.Proofs.Ythpgeeaccmgbkaa
open Go.RowKit

theorem eqIn_same (b : Bool) (s : ByteArray) (w : World) : (Op.equalIn 10000 28 (.agg #[.bool b, .string s]) (.agg #[.bool b, .string s])).run Try.prog w = .ok true w := by
  rw [eqIn_int]; have h : (s == s) = true := by rw [beq_toListBytes]; simp
  simp [h]
set_option maxRecDepth 100000 in
set_option maxHeartbeats 3200000 in
theorem equalI_yes (l : List Int) (va vb : Value) (w : World) (ha : Row w va l.length (civ l)) (hb : Row w vb l.length (civ l)) :
    Calls Try.prog 27 #[va, vb] w (Ret w (.bool true)) := by
  obtain ⟨a1, c1, rfl, hle⟩ := ha.slice
  obtain ⟨a2, c2, rfl, -⟩ := hb.slice
  obtain ⟨n, hn⟩ : ∃ n, n = l.length := ⟨_, rfl⟩
  rw [← hn] at ha hb hle ⊢
  have HA := Lib.hid ha; clear ha
  have HB := Lib.hid hb; clear hb
  have HN := Lib.hid hn; clear hn
  have hne : ((n : Int) != (n : Int)) = false := by simp
  go_enter Try.func27, Try.ntmps27
  go_wp2_with fail
  go_loopw [5, 13] (fun _ i wr => ∃ k : Nat, k ≤ n ∧ i = .int .i64 k ∧ Below w.heap.size w wr) (fun _ i _ => n - (intOf i).toNat)
  case atStart => exact ⟨0, Nat.zero_le _, rfl, Below.refl _ _⟩
  case round =>
    obtain ⟨k, hk, rfl, hbel⟩ := hrel
    have HBEL := Lib.hid hbel; clear hbel
    by_cases hlt : k < n
    · have hget : l[k]? = some (l[k]'(by rw [← HN.out]; exact hlt)) := List.getElem?_eq_getElem _
      obtain ⟨x, hx⟩ : ∃ x, x = l[k]'(by rw [← HN.out]; exact hlt) := ⟨_, rfl⟩
      rw [← hx] at hget
      obtain ⟨b1, o1, rfl, hb1, hc1⟩ := HA.out.at_ (by omega)
      obtain ⟨b2, o2, rfl, hb2, hc2⟩ := HB.out.at_ (by omega)
      obtain ⟨x0, x1⟩ := int_cells hc1 HBEL.out hb1 hget
      obtain ⟨x2, x3⟩ := int_cells hc2 HBEL.out hb2 hget
      have hxx := fun w' => eqIn_same (ineg x) (imag x) w'
      clear hx hget hc1 hc2
      go_wp2_with fail
      go_quiet (fail)
      go_wp2_with fail
      go_roundw
      case rel => exact ⟨k + 1, by omega, by go_num, below_drewN HBEL.out _⟩
      case measure => simp [intOf]; omega
    · obtain rfl : k = n := by omega
      go_wp2_with fail
      go_ret
      exact ⟨HBEL.out, rfl⟩
end Go.Proofs.Ythpgeeaccmgbkaa

