/- Contracts and plain laws of several functions, one after the other: Base, Nat, Trim, AppRow, NatM. -/
import Derived.WalkKit
import Derived.WalkSpells
import Derived.WalkLawsBesides
import Derived.Lib.Hide
import Derived.RegionTactic
import Derived.BigRegion
import Derived.Deep.OwnRows
import Derived.Laws.IdiomStrings
import Derived.Laws.BytesString
import Derived.Test.YtalipfnbpnkgnaaGreatProg
import Derived.Laws.OwnMore
import Derived.Maps.AppendAt
import Derived.Deep.RegionHeld3
/- General lemmas without the program: blocks of the call's own, slices that are read, small facts on bytes and endings. -/
namespace Go.Proofs.YtalipfnbpnkgnaaGreat
open Go.RowKit Go.Deep

/-- Block b holds the cells xs, none frozen. -/
def Blk (w : World) (b : Nat) (t : TypeId) (xs : List Value) : Prop := w.heap[b]? = some (.cells xs.toArray t (0, 0))

namespace Blk
variable {w w' : World} {b : Nat} {t : TypeId} {xs : List Value}
theorem lt (h : Blk w b t xs) : b < w.heap.size := (Array.getElem?_eq_some_iff.1 h).1
theorem cell (h : Blk w b t xs) {j : Nat} {u : Value} (hu : xs[j]? = some u) : w.cell? ⟨b, j, none⟩ = some u := by
  unfold Blk at h
  simp [World.cell?, h, hu]
theorem frozen (h : Blk w b t xs) (j : Nat) : w.frozen? ⟨b, j, none⟩ = false := by
  unfold Blk at h
  simp [World.frozen?, h]
theorem of_block (h : Blk w b t xs) (e : w'.heap[b]? = w.heap[b]?) : Blk w' b t xs := e.trans h
theorem set (h : Blk w b t xs) (j : Nat) (u : Value) : Blk (w.setCell ⟨b, j, none⟩ u) b t (xs.set j u) := by
  unfold Blk at h ⊢
  simp [World.setCell, Array.getElem?_modify, h]
theorem setOther (h : Blk w b t xs) {a : Addr} (ha : a.block ≠ b) (u : Value) : Blk (w.setCell a u) b t xs := h.of_block (Below.heap_setCell _ _ _ _ (fun e => ha e.symm))
theorem alloc (h : Blk w b t xs) (o : Obj) : Blk (w.alloc o) b t xs := h.of_block (Below.heap_alloc _ _ _ h.lt)
theorem drew (h : Blk w b t xs) : Blk w.drew b t xs := h
theorem below {B : Nat} (h : Blk w b t xs) (k : Below B w w') (hb : b < B) : Blk w' b t xs := h.of_block (k.block b hb)
theorem new (w : World) (t : TypeId) (xs : List Value) : Blk (w.alloc (.cells xs.toArray t (0, 0))) w.heap.size t xs :=
  heap_alloc_new w _
theorem congr {ys : List Value} (h : Blk w b t xs) (e : xs = ys) : Blk w b t ys := e ▸ h
end Blk

/-- The slice value v has n elements, whose cells (all of them, one after the other) are xs. -/
def Row (w : World) (v : Value) (n : Nat) (xs : List Value) : Prop :=
  (v = .slice none 0 0 ∧ n = 0 ∧ xs = []) ∨
  ∃ b off cap, v = .slice (some ⟨b, off, none⟩) n cap ∧ n ≤ cap ∧ cap ≤ maxLen ∧ b < w.heap.size ∧ ∀ j u, xs[j]? = some u → w.cell? ⟨b, off + j, none⟩ = some u

namespace Row
variable {w w' : World} {v : Value} {n : Nat} {xs : List Value}
theorem nil (w : World) : Row w (.slice none 0 0) 0 [] := .inl ⟨rfl, rfl, rfl⟩
theorem below {B : Nat} (h : Row w v n xs) (k : Below B w w') (hB : w.heap.size ≤ B) : Row w' v n xs := by
  rcases h with h | ⟨b, off, cap, hv, h1, h2, h3, h4⟩
  · exact .inl h
  · exact .inr ⟨b, off, cap, hv, h1, h2, by have := k.size; omega, fun j u hu => (k.cell (p := ⟨b, off + j, none⟩) (by show b < B; omega)).trans (h4 j u hu)⟩
theorem ofBlk {b : Nat} {t : TypeId} (h : Blk w b t xs) {m cap : Nat} (h1 : m ≤ cap) (h2 : cap ≤ maxLen) (k : Nat) : Row w (.slice (some ⟨b, 0, none⟩) m cap) m (xs.take k) :=
  .inr ⟨b, 0, cap, rfl, h1, h2, h.lt, fun j u hu => by
    rw [Nat.zero_add]; apply h.cell
    rw [List.getElem?_take] at hu
    split at hu
    · exact hu
    · cases hu⟩
theorem slice (h : Row w v n xs) : ∃ a cap, v = .slice a n cap ∧ n ≤ 9223372036854775807 := by
  rcases h with ⟨hv, hn, hx⟩ | ⟨b, off, cap, hv, h1, h2, h3, h4⟩
  · exact ⟨_, _, by rw [hn]; exact hv, by omega⟩
  · unfold maxLen at h2; exact ⟨_, _, hv, by omega⟩
theorem at_ {a : Option Addr} {cap : Nat} (h : Row w (.slice a n cap) n xs) (hn : 0 < n) : ∃ b off, a = some ⟨b, off, none⟩ ∧ b < w.heap.size ∧ ∀ j u, xs[j]? = some u → w.cell? ⟨b, off + j, none⟩ = some u := by
  rcases h with ⟨hv, hn', hx⟩ | ⟨b, off, cap, hv, h1, h2, h3, h4⟩
  · omega
  · simp only [Value.slice.injEq] at hv
    exact ⟨b, off, hv.1, h3, h4⟩
theorem take (h : Row w v n xs) (k : Nat) : Row w v n (xs.take k) := by
  rcases h with ⟨hv, hn, hx⟩ | ⟨b, off, cap, hv, h1, h2, h3, h4⟩
  · exact .inl ⟨hv, hn, by simp [hx]⟩
  · exact .inr ⟨b, off, cap, hv, h1, h2, h3, fun j u hu => h4 j u (by
      rw [List.getElem?_take] at hu
      split at hu
      · exact hu
      · cases hu)⟩
end Row

theorem Row.drew {w : World} {v : Value} {n : Nat} {xs : List Value} (h : Row w v n xs) : Row w.drew v n xs := h
/-- e returns a value, and nothing that was there has changed. -/
def Ret (w : World) (v : Value) (e : Ending) (w' : World) : Prop := Below w.heap.size w w' ∧ e = .returned v
theorem ret_int {k : IntKind} {a b : Int} (h : a = b) : Ending.returned (.int k a) = .returned (.int k b) := by rw [h]
theorem ret_of {a b : Value} (h : a = b) : Ending.returned a = .returned b := by rw [h]
theorem drop_at (s : ByteArray) (n : Nat) (h : n < s.size) : s.data.toList.drop n = s[n] :: s.data.toList.drop (n + 1) := by
  rw [List.drop_eq_getElem_cons (by simpa using h)]; rfl
theorem bytes_size (s : ByteArray) : s.data.toList.length = s.size := by simp
theorem madeOne (z : Value) (n : Nat) : madeCells #[z] n = (List.replicate n z).toArray := by
  apply Array.ext
  · simp [madeCells]
  · intro i h1 h2; simp [madeCells, Nat.mod_one]


theorem _root_.Go.RowKit.Below.of_alloc {B : Nat} {w w' : World} {o : Obj} (h : Below B (w.alloc o) w') (hB : B ≤ w.heap.size := by first | exact Nat.le_refl _ | simp) : Below B w w' :=
  ((Below.refl B w).alloc hB o).trans h
/-- What the call owns stays owned where only new blocks come. -/
theorem own_below {w w' : World} {base : Nat} {e : TypeId} {size : Nat} {v : Value} {n : Nat} {xs : List Value} (h : w.ownsRow base e size v n xs) (k : Below w.heap.size w w') : w'.ownsRow base e size v n xs := by
  refine ⟨h.1, ?_⟩
  rcases h.2 with hn | ⟨g, cap, cur, rfl, hb, hg, rest⟩
  · exact .inl hn
  · exact .inr ⟨g, cap, cur, rfl, hb, (k.block g (Array.getElem?_eq_some_iff.1 hg).1).trans hg, rest⟩
theorem own_setCell {w : World} {base : Nat} {e : TypeId} {size : Nat} {v : Value} {n : Nat} {xs : List Value} (h : w.ownsRow base e size v n xs) (a : Addr) (u : Value) (hne : v.ownBlock ≠ some a.block) : (w.setCell a u).ownsRow base e size v n xs := by
  refine ⟨h.1, ?_⟩
  rcases h.2 with hn | ⟨g, cap, cur, rfl, hb, hg, rest⟩
  · exact .inl hn
  · exact .inr ⟨g, cap, cur, rfl, hb, (Below.heap_setCell _ _ _ _ (fun e => hne (by rw [e]; rfl))).trans hg, rest⟩
theorem own_row {w : World} {base : Nat} {e : TypeId} {size : Nat} {v : Value} {n : Nat} {xs : List Value} (h : w.ownsRow base e size v n xs) : Row w v n xs := by
  have hc := fun g hg => h.cells (g := g) hg
  obtain ⟨hl, h | ⟨g, cap, cur, rfl, hb, hg, h1, h2, h3, h4⟩⟩ := h
  · obtain ⟨rfl, rfl⟩ := h
    exact .inl ⟨rfl, rfl, List.length_eq_zero_iff.1 (by omega)⟩
  · refine .inr ⟨g, 0, cap, rfl, h1, h2, (Array.getElem?_eq_some_iff.1 hg).1, fun j u hu => ?_⟩
    have := hc g rfl j u hu
    unfold Addr.add at this
    split at this
    · rename_i h0; subst h0; exact this
    · exact this
theorem own_slice {w : World} {base : Nat} {e : TypeId} {size : Nat} {v : Value} {n : Nat} {xs : List Value} (h : w.ownsRow base e size v n xs) : ∃ a cap, v = .slice a n cap := by
  obtain ⟨hl, h | ⟨g, cap, cur, rfl, hb, hg, h1, h2, h3, h4⟩⟩ := h
  · obtain ⟨rfl, rfl⟩ := h
    exact ⟨_, _, rfl⟩
  · exact ⟨_, _, rfl⟩
theorem own_lt {w : World} {base : Nat} {e : TypeId} {size : Nat} {v : Value} {n : Nat} {xs : List Value} (h : w.ownsRow base e size v n xs) (hb : base ≤ w.heap.size) : ∀ k, v.ownBlock = some k → base ≤ k := fun k hk => (h.lt k hk).1

/-- 'append(s, x)' of one element, on a slice of the call's own: x has first been laid in a block of its own. -/
theorem app_one {P : Program} (W : World) {ops : Array Oper} {rest : List Oper} {o : Oper} {a : Act} {Q : Exit → Act → World → Prop} (hgd : o.guard = none) (s x : Operand) (t : TypeId)
    (ho : o.op = .call { callee := .builtin .append, args := #[s, x], argTypes := #[t, t] })
    (base : Nat) (e : TypeId) (z : Value) (size bytes : Nat) (ht : P.underlying t = some (.slice e)) (hinfo : (P.info? e).map (fun i => (i.zero, i.size, i.bytes)) = some (some z, size, bytes))
    (hzs : z.cells.size = size) (hsz : 0 < size)
    (v : Value) (n : Nat) (xs : List Value) (hs : a.eval s = v) (hown : W.ownsRow base e size v n xs)
    (news : List Value) (c : Nat) (hx : a.eval x = .slice (some ⟨W.heap.size, 0, none⟩) 1 c) (hl : news.length = size) (h1 : ∀ u ∈ news, u.oneCell' = true)
    (hbytes : (n + 1) * bytes ≤ 140737488355328) (h63 : n < 140737488355328) (hbase : base ≤ W.heap.size)
    (h : ∀ v' w', w'.ownsRow base e size v' (n + 1) (xs ++ news) → W.grownBy w' v.ownBlock → wpList P ops Q rest (a.put o.dst v') w') :
    wpList P ops Q (o :: rest) a (W.alloc (.cells news.toArray e (0, 0))) := by
  obtain ⟨i, hi, hz0, hz1, hz2⟩ := info_parts hinfo
  refine wpList_append_own _ hgd s x t ho base e i z size bytes ht hi hz0 hz1 hz2 hzs hsz v n xs hs (hown.alloc _) ⟨W.heap.size, 0, none⟩ 1 c news hx (by omega) ?_ h1 (by unfold maxLen; omega) hbytes (by simp; omega) ?_
  · intro j u hu
    have hb := Blk.new W e news
    have := hb.cell hu
    unfold Addr.add
    split
    · rename_i h0; subst h0; exact this
    · simpa using this
  · intro v' w' h2 h3 _
    refine h v' w' h2 ⟨h3.os, h3.tape, h3.output, by have := h3.size; simp at this; omega, fun k hk hne => ?_⟩
    rw [h3.block k (by simp; omega) hne, Below.heap_alloc _ _ _ hk]

/-- n zero values, one after the other. -/
def zrow (z : Value) (c : Nat) : List Value := (List.replicate c z.cells.toList).flatten
def zarr (z : Value) (c : Nat) : Array Value := (zrow z c).toArray
theorem zrow_length (z : Value) (c : Nat) : (zrow z c).length = c * z.cells.size := by simp [zrow]
theorem zrow_one (z : Value) (c : Nat) (h : z.cells = #[z]) : zrow z c = List.replicate c z := by
  rw [zrow, h]
  induction c with
  | zero => rfl
  | succ c ih => rw [List.replicate_succ, List.flatten_cons, ih, List.replicate_succ]; rfl
theorem flat_get (l : List Value) (c i : Nat) (h : i < c * l.length) : (List.replicate c l).flatten[i]? = l[i % l.length]? := by
  induction c generalizing i with
  | zero => simp at h
  | succ c ih =>
    rw [List.replicate_succ, List.flatten_cons, List.getElem?_append]
    split
    · rename_i h1; rw [Nat.mod_eq_of_lt h1]
    · rename_i h1
      rw [ih _ (by rw [Nat.succ_mul] at h; omega), ← Nat.mod_eq_sub_mod (by omega)]
theorem zarr_eq (z : Value) (c : Nat) : madeCells z.cells (c * z.cells.size) = zarr z c := by
  apply Array.ext
  · simp [madeCells, zarr, zrow_length]
  · intro i h1 h2
    have h1' : i < c * z.cells.toList.length := by simpa [madeCells] using h1
    have h3 : 0 < z.cells.size := by
      rcases Nat.eq_zero_or_pos z.cells.size with h | h
      · simp [h] at h1'
      · exact h
    have h4 : i % z.cells.size < z.cells.size := Nat.mod_lt _ h3
    have h5 := flat_get z.cells.toList c i h1'
    have h6 : (zarr z c)[i]? = z.cells[i % z.cells.size]? := by simpa [zarr, zrow] using h5
    rw [Array.getElem?_eq_getElem h2, Array.getElem?_eq_getElem h4, Option.some.injEq] at h6
    rw [h6]
    simp [madeCells, h4]
theorem Blk.zero (w : World) (t : TypeId) (z : Value) (c : Nat) : Blk (w.alloc (.cells (zarr z c) t)) w.heap.size t (zrow z c) := Blk.new w t (zrow z c)
/-- 'make([]T, l, c)'. -/
theorem mk_slice {P : Program} (t e : TypeId) (z : Value) (size bytes : Nat) (ht : P.underlying t = some (.slice e)) (hinfo : (P.info? e).map (fun i => (i.zero, i.size, i.bytes)) = some (some z, size, bytes)) (hz : z.cells.size = size)
    (kl kc : IntKind) (l c : Nat) (hlc : l ≤ c) (hb : bytes * c ≤ 281474976710656) (h63 : c ≤ 9223372036854775807) (L C : Int) (hL : L = (l : Int)) (hC : C = (c : Int)) (w : World) :
    (Instr.makeSlice t (.int kl L) (.int kc C)).run P w = .ok (.slice (some ⟨w.heap.size, 0, none⟩) l c) (w.alloc (.cells (zarr z c) e)) := by
  subst hL hC
  obtain ⟨i, hi, hz0, hz1, hz2⟩ := info_parts hinfo
  have hbi : (i.bytes : Int) * (c : Int) ≤ 281474976710656 := by
    rw [hz2]
    have h : ((bytes * c : Nat) : Int) ≤ 281474976710656 := by omega
    rwa [Int.natCast_mul] at h
  have h := run_make (P := P) w t e i z ht hi hz0 kl kc l c (by omega) (by omega) hbi (by omega)
  simp only [Int.toNat_natCast, hz1, ← hz, zarr_eq] at h
  exact h
/-- A slice that make has laid is the call's own. -/
theorem own_made (w : World) (base : Nat) (e : TypeId) (z : Value) (c : Nat) (hb : base ≤ w.heap.size) (hm : c ≤ maxLen) : (w.alloc (.cells (zarr z c) e)).ownsRow base e z.cells.size (.slice (some ⟨w.heap.size, 0, none⟩) 0 c) 0 [] :=
  World.ownsRow_made w _ c hb hm (by simp [zarr, zrow_length])
/-- Cells of bytes. -/
def cb (l : List UInt8) : List Value := l.map fun (c : UInt8) => Value.int .u8 (c.toNat : Int)
theorem cb_length (l : List UInt8) : (cb l).length = l.length := by simp [cb]
theorem cb_append (l k : List UInt8) : cb (l ++ k) = cb l ++ cb k := by simp [cb]
/-- 'string(b)'. -/
theorem conv_row {P : Program} (w : World) (src dst e : TypeId) (hs : P.underlying src = some (.slice e)) (he : P.underlying e = some (.int .u8)) (hd : P.underlying dst = some .string)
    (a : Option Addr) (cap : Nat) (l : List UInt8) (h : Row w (.slice a l.length cap) l.length (cb l)) :
    (convert src dst (.slice a l.length cap)).run P w = .ok (.string ⟨l.toArray⟩) w := by
  rcases h with ⟨hv, hn, hx⟩ | ⟨b, off, cap', hv, h1, h2, h3, h4⟩
  · have hl : l = [] := List.length_eq_zero_iff.1 hn
    subst hl
    simp only [Value.slice.injEq] at hv
    obtain ⟨rfl, _, rfl⟩ := hv
    rw [run_convert_bytes_string w src dst e none _ _ hs he hd]
    rfl
  · simp only [Value.slice.injEq] at hv
    obtain ⟨rfl, _, rfl⟩ := hv
    refine run_convert_bytes_back w src dst e _ _ l hs he hd fun j hj => ?_
    have := h4 j (.int .u8 (l[j].toNat : Int)) (by simp [cb, hj])
    unfold Addr.add
    split
    · rename_i h0; subst h0; exact this
    · exact this
theorem grown_trans {w w' w'' : World} {row : Option Nat} (h : w.grownBy w' row) (k : Below w'.heap.size w' w'') : w.grownBy w'' row :=
  ⟨k.os.trans h.os, k.tape.trans h.tape, k.output.trans h.output, Nat.le_trans h.size k.size, fun i hi hne => (k.block i (by have := h.size; omega)).trans (h.block i hi hne)⟩

end Go.Proofs.YtalipfnbpnkgnaaGreat

/- Plain arithmetic without the program: digits to the base 2^32 (least first) and to the base 256 (most significant first). -/
namespace Go.Proofs.YtalipfnbpnkgnaaGreat

/-- The digit of x at place i, to the base 2^32. -/
def dig (x i : Nat) : Nat := x / 4294967296 ^ i % 4294967296
theorem dig_lt (x i : Nat) : dig x i < 4294967296 := Nat.mod_lt _ (by decide)
/-- The lowest m digits. -/
def Dn : Nat → Nat → List Nat
  | 0, _ => []
  | m + 1, x => x % 4294967296 :: Dn m (x / 4294967296)
/-- All digits, without zeros at the end. -/
def dg (x : Nat) : List Nat := if h : x = 0 then [] else (x % 4294967296) :: dg (x / 4294967296)
termination_by x
decreasing_by omega
/-- The value of digits. -/
def val : List Nat → Nat
  | [] => 0
  | d :: t => d + 4294967296 * val t
/-- Without zeros at the end. -/
def tz : List Nat → List Nat
  | [] => []
  | d :: t => if d = 0 ∧ tz t = [] then [] else d :: tz t

theorem dg_zero : dg 0 = [] := by rw [dg]; simp
theorem dg_pos {x : Nat} (h : 0 < x) : dg x = (x % 4294967296) :: dg (x / 4294967296) := by rw [dg, dif_neg (by omega)]
theorem dg_nil {x : Nat} (h : dg x = []) : x = 0 := by
  rw [dg] at h
  split at h
  · assumption
  · cases h
theorem val_dg (x : Nat) : val (dg x) = x := by
  induction x using Nat.strongRecOn with
  | _ x ih =>
    by_cases h : x = 0
    · subst h; rw [dg_zero]; rfl
    · rw [dg_pos (by omega), val, ih _ (by omega)]; omega
theorem dg_lt (x : Nat) : ∀ d ∈ dg x, d < 4294967296 := by
  induction x using Nat.strongRecOn with
  | _ x ih =>
    by_cases h : x = 0
    · subst h; rw [dg_zero]; simp
    · rw [dg_pos (by omega)]
      intro d hd
      rcases List.mem_cons.1 hd with rfl | hd
      · omega
      · exact ih _ (by omega) d hd
theorem dig_zero (x : Nat) : dig x 0 = x % 4294967296 := by simp [dig]
theorem dig_succ (x i : Nat) : dig x (i + 1) = dig (x / 4294967296) i := by
  unfold dig; rw [Nat.pow_succ, Nat.mul_comm, Nat.div_div_eq_div_mul]
theorem dig_of_zero (i : Nat) : dig 0 i = 0 := by simp [dig]

theorem Dn_length (m x : Nat) : (Dn m x).length = m := by
  induction m generalizing x with
  | zero => rfl
  | succ m ih => simp [Dn, ih]
theorem Dn_get (m x i : Nat) (h : i < m) : (Dn m x)[i]? = some (dig x i) := by
  induction m generalizing x i with
  | zero => omega
  | succ m ih =>
    cases i with
    | zero => simp [Dn, dig_zero]
    | succ i => simp only [Dn, List.getElem?_cons_succ]; rw [ih _ _ (by omega), dig_succ]
theorem dg_get (x i : Nat) (h : i < (dg x).length) : (dg x)[i]? = some (dig x i) := by
  induction i generalizing x with
  | zero =>
    by_cases hx : x = 0
    · subst hx; rw [dg_zero] at h; simp at h
    · rw [dg_pos (by omega)]; simp [dig_zero]
  | succ i ih =>
    by_cases hx : x = 0
    · subst hx; rw [dg_zero] at h; simp at h
    · rw [dg_pos (by omega)] at h ⊢
      simp only [List.getElem?_cons_succ]
      rw [ih _ (by simpa using h), dig_succ]
theorem dig_beyond (x i : Nat) (h : (dg x).length ≤ i) : dig x i = 0 := by
  induction i generalizing x with
  | zero =>
    have : x = 0 := dg_nil (List.length_eq_zero_iff.1 (by omega))
    subst this; exact dig_of_zero 0
  | succ i ih =>
    by_cases hx : x = 0
    · subst hx; exact dig_of_zero _
    · rw [dg_pos (by omega)] at h
      rw [dig_succ]; exact ih _ (by simpa using h)
theorem pos_pow (i : Nat) : 0 < 4294967296 ^ i := Nat.pow_pos (by decide)
theorem lt_pow_dg (x : Nat) : x < 4294967296 ^ (dg x).length := by
  induction x using Nat.strongRecOn with
  | _ x ih =>
    by_cases h : x = 0
    · subst h; rw [dg_zero]; decide
    · rw [dg_pos (by omega)]
      have := ih (x / 4294967296) (by omega)
      simp only [List.length_cons, Nat.pow_succ]
      omega
theorem pow_le_dg (x : Nat) (h : 0 < x) : 4294967296 ^ ((dg x).length - 1) ≤ x := by
  induction x using Nat.strongRecOn with
  | _ x ih =>
    rw [dg_pos h]
    simp only [List.length_cons, Nat.add_sub_cancel]
    by_cases hq : x / 4294967296 = 0
    · rw [hq, dg_zero]; simp; omega
    · have h1 := ih (x / 4294967296) (by omega) (by omega)
      have h2 : 0 < (dg (x / 4294967296)).length := by
        rw [dg_pos (by omega)]; simp
      have e : (dg (x / 4294967296)).length = (dg (x / 4294967296)).length - 1 + 1 := by omega
      rw [e, Nat.pow_succ]
      omega
theorem dg_length_le {x m : Nat} (h : x < 4294967296 ^ m) : (dg x).length ≤ m := by
  by_cases hx : 0 < x
  · have h1 := pow_le_dg x hx
    have h2 : 4294967296 ^ ((dg x).length - 1) < 4294967296 ^ m := by omega
    have := (Nat.pow_lt_pow_iff_right (a := 4294967296) (by decide)).1 h2
    omega
  · have : x = 0 := by omega
    subst this; rw [dg_zero]; simp
theorem tz_lt {l : List Nat} (h : ∀ d ∈ l, d < 4294967296) : dg (val l) = tz l := by
  induction l with
  | nil => simp [val, tz, dg_zero]
  | cons d t ih =>
    have hd : d < 4294967296 := h d (by simp)
    have ht := ih (fun e he => h e (by simp [he]))
    rw [val, tz]
    by_cases h0 : d = 0 ∧ tz t = []
    · rw [if_pos h0]
      have hv : val t = 0 := dg_nil (ht.trans h0.2)
      rw [hv, h0.1]; exact dg_zero
    · rw [if_neg h0]
      have hp : 0 < d + 4294967296 * val t := by
        by_cases hd0 : d = 0
        · have : val t ≠ 0 := fun e => h0 ⟨hd0, by rw [← ht, e, dg_zero]⟩
          omega
        · omega
      rw [dg_pos hp]
      have e1 : (d + 4294967296 * val t) % 4294967296 = d := by omega
      have e2 : (d + 4294967296 * val t) / 4294967296 = val t := by omega
      rw [e1, e2, ht]
theorem tz_length (l : List Nat) : (tz l).length ≤ l.length := by
  induction l with
  | nil => simp [tz]
  | cons d t ih => rw [tz]; split <;> simp <;> omega
theorem tz_snoc_zero (l : List Nat) : tz (l ++ [0]) = tz l := by
  induction l with
  | nil => simp [tz]
  | cons d t ih => simp only [List.cons_append, tz, ih]
theorem tz_snoc_pos (l : List Nat) (d : Nat) (h : d ≠ 0) : tz (l ++ [d]) = l ++ [d] := by
  induction l with
  | nil => simp [tz, h]
  | cons e t ih => simp [tz, ih]
theorem tz_take (l : List Nat) : ∃ k, k ≤ l.length ∧ tz l = l.take k := by
  induction l with
  | nil => exact ⟨0, by simp, by simp [tz]⟩
  | cons d t ih =>
    obtain ⟨k, hk, e⟩ := ih
    rw [tz]
    split
    · exact ⟨0, by simp, by simp⟩
    · exact ⟨k + 1, by simpa using hk, by simp [e]⟩
theorem Dn_lt (m x : Nat) : ∀ d ∈ Dn m x, d < 4294967296 := by
  induction m generalizing x with
  | zero => simp [Dn]
  | succ m ih =>
    intro d hd
    rcases List.mem_cons.1 hd with rfl | hd
    · omega
    · exact ih _ d hd
theorem val_Dn (m x : Nat) : val (Dn m x) = x % 4294967296 ^ m := by
  induction m generalizing x with
  | zero => simp [Dn, val, Nat.mod_one]
  | succ m ih =>
    simp only [Dn, val]
    rw [ih, Nat.pow_succ, Nat.mul_comm (4294967296 ^ m), Nat.mod_mul]
theorem tz_Dn {m x : Nat} (h : x < 4294967296 ^ m) : tz (Dn m x) = dg x := by
  rw [← tz_lt (Dn_lt m x), val_Dn, Nat.mod_eq_of_lt h]
/-- A list of digits is told by its places. -/
theorem eq_Dn {l : List Nat} {m x : Nat} (hl : l.length = m) (h : ∀ i, i < m → l[i]? = some (dig x i)) : l = Dn m x := by
  apply List.ext_getElem?
  intro i
  by_cases hi : i < m
  · rw [h i hi, Dn_get _ _ _ hi]
  · rw [List.getElem?_eq_none (by omega), List.getElem?_eq_none (by rw [Dn_length]; omega)]
theorem Dn_dg (x : Nat) : Dn (dg x).length x = dg x := (eq_Dn rfl fun i hi => dg_get x i hi).symm
theorem Dn_zero (m : Nat) : Dn m 0 = List.replicate m 0 := by
  induction m with
  | zero => rfl
  | succ m ih => simp [Dn, ih, List.replicate_succ]

/-! ### Bytes, the most significant one first -/

/-- The value of bytes. -/
def bval : List UInt8 → Nat
  | [] => 0
  | c :: t => c.toNat * 256 ^ t.length + bval t
theorem bval_lt (l : List UInt8) : bval l < 256 ^ l.length := by
  induction l with
  | nil => simp [bval]
  | cons c t ih =>
    have : c.toNat < 256 := UInt8.toNat_lt c
    simp only [bval, List.length_cons, Nat.pow_succ]
    have : c.toNat * 256 ^ t.length ≤ 255 * 256 ^ t.length := Nat.mul_le_mul_right _ (by omega)
    omega
theorem bval_snoc (l : List UInt8) (c : UInt8) : bval (l ++ [c]) = 256 * bval l + c.toNat := by
  induction l with
  | nil => simp [bval]
  | cons d t ih =>
    simp only [List.cons_append, bval, ih, List.length_append, List.length_cons, List.length_nil, Nat.zero_add, Nat.pow_succ]
    rw [Nat.mul_add, ← Nat.add_assoc]
    congr 2
    rw [Nat.mul_comm (256 ^ t.length), ← Nat.mul_assoc, ← Nat.mul_assoc, Nat.mul_comm 256]
/-- The bytes of a number, without zeros ahead. -/
def bb (x : Nat) : List UInt8 := if h : x = 0 then [] else bb (x / 256) ++ [UInt8.ofNat (x % 256)]
termination_by x
decreasing_by omega
theorem bb_zero : bb 0 = [] := by rw [bb]; simp
theorem bb_pos {x : Nat} (h : 0 < x) : bb x = bb (x / 256) ++ [UInt8.ofNat (x % 256)] := by rw [bb, dif_neg (by omega)]
theorem bb_step (y c : Nat) (hc : c < 256) (h : 0 < y ∨ 0 < c) : bb (256 * y + c) = bb y ++ [UInt8.ofNat c] := by
  rw [bb_pos (by omega)]
  have e1 : (256 * y + c) / 256 = y := by omega
  have e2 : (256 * y + c) % 256 = c := by omega
  rw [e1, e2]
theorem bval_bb (x : Nat) : bval (bb x) = x := by
  induction x using Nat.strongRecOn with
  | _ x ih =>
    by_cases h : x = 0
    · subst h; rw [bb_zero]; rfl
    · rw [bb_pos (by omega), bval_snoc, ih _ (by omega)]
      have : (UInt8.ofNat (x % 256)).toNat = x % 256 := by simp
      rw [this]; omega
theorem bb_inj {x y : Nat} (h : bb x = bb y) : x = y := by rw [← bval_bb x, ← bval_bb y, h]
theorem bb_nil {x : Nat} (h : bb x = []) : x = 0 := bb_inj (h.trans bb_zero.symm)
theorem bb_length_pos {x : Nat} (h : 0 < x) : 0 < (bb x).length := by rw [bb_pos h]; simp
theorem bb_pos_of {x : Nat} (h : (bb x).length ≠ 0) : 0 < x := by
  rcases Nat.eq_zero_or_pos x with e | e
  · subst e; rw [bb_zero] at h; exact absurd rfl h
  · exact e
theorem bb_length_le {x m : Nat} (h : x < 256 ^ m) : (bb x).length ≤ m := by
  induction m generalizing x with
  | zero =>
    have : x = 0 := by simpa using h
    subst this; simp [bb_zero]
  | succ m ih =>
    by_cases hx : x = 0
    · subst hx; simp [bb_zero]
    · rw [bb_pos (by omega)]
      have := ih (x := x / 256) (by rw [Nat.pow_succ] at h; omega)
      simp; omega
theorem lt_pow_bb (x : Nat) : x < 256 ^ (bb x).length := by
  have := bval_lt (bb x); rwa [bval_bb] at this
end Go.Proofs.YtalipfnbpnkgnaaGreat

/- The contract of integer.trim: it returns the same slice, without the zeros at its end; it changes nothing. -/
namespace Go.Proofs.YtalipfnbpnkgnaaGreat
open Go.RowKit

/-- Cells of digits. -/
def cs32 (l : List Nat) : List Value := l.map fun (d : Nat) => Value.int .u32 (d : Int)
theorem cs32_length (l : List Nat) : (cs32 l).length = l.length := by simp [cs32]
theorem cs32_get {l : List Nat} {i d : Nat} (h : l[i]? = some d) : (cs32 l)[i]? = some (.int .u32 (d : Int)) := by simp [cs32, h]

def TrimPost (w : World) (v : Value) (ds : List Nat) (e : Ending) (w' : World) : Prop :=
  w = w' ∧ ∃ v', e = .returned v' ∧ Row w v' (tz ds).length (cs32 (tz ds))

set_option maxHeartbeats 400000 in
theorem trim_any (ds : List Nat) (v : Value) (w : World) (h : Row w v ds.length (cs32 ds)) :
    Calls Tryz.prog 94 #[v] w (TrimPost w v ds) := by
  rcases h with ⟨rfl, h1, h2⟩ | ⟨b, off, cap, rfl, h1, h2, h3, h4⟩
  · have hd : ds = [] := List.length_eq_zero_iff.1 h1
    subst hd
    clear h1 h2
    go_enter Tryz.func94, Tryz.ntmps94
    go_wp2
    go_loop [0] (fun x => x = .slice none 0 0) (fun _ => 0)
    case atStart => rfl
    case round =>
      subst hrel
      go_wp2
      go_ret
      exact ⟨rfl, .slice none 0 0, rfl, Row.nil w⟩
  · unfold maxLen at h2
    have hlen : ds.length ≤ 9223372036854775807 := by omega
    go_enter Tryz.func94, Tryz.ntmps94
    go_wp2
    go_loop [0] (fun x => ∃ k : Nat, k ≤ ds.length ∧ x = .slice (some ⟨b, off, none⟩) k cap ∧ tz (ds.take k) = tz ds) (fun x => match x with | .slice _ k _ => k | _ => 0)
    case atStart => exact ⟨ds.length, Nat.le_refl _, rfl, by simp⟩
    case round =>
      obtain ⟨k, hk, rfl, he⟩ := hrel
      have HE := Lib.hid he; clear he
      cases k with
      | zero =>
        go_wp2
        go_ret
        refine ⟨rfl, .slice (some ⟨b, off, none⟩) 0 cap, rfl, ?_⟩
        rw [← HE.out]
        exact .inr ⟨b, off, cap, rfl, by simp [tz], h2, h3, by simp [tz, cs32]⟩
      | succ k =>
        have hget : ds[k]? = some (ds[k]'(by omega)) := List.getElem?_eq_getElem _
        obtain ⟨d, hd⟩ : ∃ d, d = ds[k]'(by omega) := ⟨_, rfl⟩
        rw [← hd] at hget; clear hd
        have hcell : w.cell? ⟨b, off + k, none⟩ = some (.int .u32 (d : Int)) := h4 k _ (cs32_get hget)
        have HG := Lib.hid hget; clear hget
        have H4 := Lib.hid h4; clear h4
        by_cases h0 : d = 0
        · subst h0
          go_wp2
          go_round
          case rel => exact ⟨k, by omega, rfl, by rw [← HE.out, List.take_add_one, HG.out]; simp [tz_snoc_zero]⟩
          case measure => simp
        · have hz : ((d : Int) == 0) = false := by simp; omega
          go_wp2
          go_ret
          refine ⟨rfl, .slice (some ⟨b, off, none⟩) (k + 1) cap, rfl, ?_⟩
          have e : tz ds = ds.take (k + 1) := by rw [← HE.out, List.take_add_one, HG.out]; simp [tz_snoc_pos _ _ h0]
          rw [e]
          exact .inr ⟨b, off, cap, by rw [List.length_take, Nat.min_eq_left hk], by rw [List.length_take]; omega, h2, h3, fun j u hu => H4.out j u (by
            simp only [cs32, List.map_take, List.getElem?_take] at hu
            split at hu
            · exact hu
            · cases hu)⟩
end Go.Proofs.YtalipfnbpnkgnaaGreat

/- append of a whole row (nil or not, empty or not) to a slice of the call's own: at a step of a region that draws its order. -/
namespace Go.Proofs.YtalipfnbpnkgnaaGreat
open Go.RowKit

theorem run_append_row {P : Program} (w : World) (base : Nat) (t ty e : TypeId) (z : Value) (size bytes : Nat) (ht : P.underlying t = some (.slice e)) (hinfo : (P.info? e).map (fun i => (i.zero, i.size, i.bytes)) = some (some z, size, bytes))
    (hzs : z.cells.size = size) (hsz : 0 < size) (v : Value) (n : Nat) (xs : List Value) (hown : w.ownsRow base e size v n xs)
    (sv : Value) (m : Nat) (news : List Value) (hrow : Row w sv m news) (hl : news.length = m * size) (h1 : ∀ u ∈ news, u.oneCell' = true)
    (h63 : n + m ≤ maxLen) (hbytes : (n + m) * bytes ≤ 140737488355328) (hbase : base ≤ w.heap.size) :
    ∃ v' w', (Builtin.append_ #[t, t] ty #[v, sv]).run P w = .ok v' w' ∧ w'.ownsRow base e size v' (n + m) (xs ++ news) ∧ w.grownBy w' v.ownBlock := by
  obtain ⟨i, hi, hz0, hz1, hz2⟩ := info_parts hinfo
  rcases hrow with ⟨rfl, rfl, rfl⟩ | ⟨b, off, cap, rfl, h2, h3, h4, h5⟩
  · refine ⟨v, w, run_append_owned_none (P := P) (w := w) base t ty e i size ht hi v n xs hown, by simpa using hown, ⟨rfl, rfl, rfl, Nat.le_refl _, fun _ _ _ => rfl⟩⟩
  · obtain ⟨v', w', r1, r2, r3, -⟩ := run_append_own_at (P := P) w base t ty e i z size bytes ht hi hz0 hz1 hz2 hzs hsz v n xs hown ⟨b, off, none⟩ m cap news hl (fun j u hu => by
      have := h5 j u hu
      unfold Addr.add
      split
      · rename_i h0; subst h0; exact this
      · exact this) h1 h63 hbytes hbase
    exact ⟨v', w', r1, r2, r3⟩
theorem step_append_row {P : Program} {w : World} {ops : Array Oper} {o : Oper} {a : Act} {K : Act → World → Prop} {Q : Exit → Act → World → Prop} {E : Prop} (hgd : o.guard = none) (s x : Operand) (t : TypeId)
    (ho : o.op = .call { callee := .builtin .append, args := #[s, x], argTypes := #[t, t] })
    (base : Nat) (e : TypeId) (z : Value) (size bytes : Nat) (ht : P.underlying t = some (.slice e)) (hinfo : (P.info? e).map (fun i => (i.zero, i.size, i.bytes)) = some (some z, size, bytes))
    (hzs : z.cells.size = size) (hsz : 0 < size) (v : Value) (n : Nat) (xs : List Value) (hs : a.eval s = v) (hown : w.ownsRow base e size v n xs)
    (sv : Value) (m : Nat) (news : List Value) (hx : a.eval x = sv) (hrow : Row w sv m news) (hl : news.length = m * size) (h1 : ∀ u ∈ news, u.oneCell' = true)
    (h63 : n + m ≤ maxLen) (hbytes : (n + m) * bytes ≤ 140737488355328) (hbase : base ≤ w.heap.size)
    (h : ∀ v' w', w'.ownsRow base e size v' (n + m) (xs ++ news) → w.grownBy w' v.ownBlock → K (a.put o.dst v') w') :
    if Region.wanted o (yielded ops a.tmps) = true then Oper.wp P o a w K Q else E := by
  have hw : Region.wanted o (yielded ops a.tmps) = true := by simp [Region.wanted, hgd]
  rw [if_pos hw]
  obtain ⟨v', w', hr, h2, h3⟩ := run_append_row (P := P) w base t o.type e z size bytes ht hinfo hzs hsz v n xs hown sv m news hrow hl h1 h63 hbytes hbase
  unfold Oper.wp execOp
  simp only [ho, resolve, invoke, builtin, Sem.run_bind, Sem.run_pure, Result.andThen_ok, List.map_toArray, List.map_cons, List.map_nil, hs, hx, hr]
  exact h v' w' h2 h3
theorem Blk.grown {w w' : World} {b : Nat} {t : TypeId} {xs : List Value} {row : Option Nat} (h : Blk w b t xs) (hg : w.grownBy w' row) (hne : row ≠ some b) : Blk w' b t xs := h.of_block (hg.block b h.lt hne.symm)
theorem Row.le {w : World} {a : Option Addr} {m c : Nat} {xs : List Value} (h : Row w (.slice a m c) m xs) : m ≤ c := by
  rcases h with ⟨hv, hn, -⟩ | ⟨b, off, cap, hv, h1, -⟩
  · omega
  · simp only [Value.slice.injEq] at hv; omega
/-- 's[:p]' of a row. -/
theorem sl_to {P : Program} (t e : TypeId) (size : Nat) (ht : P.underlying t = some (.slice e)) (hz : ∀ w, (Go.sizeOf e).run P w = .ok size w) (a : Option Addr) (m c p : Nat) (hp : p ≤ m) (hc : m ≤ c) :
    ∃ a' c', (∀ w, (Instr.slice t (.slice a m c) none (some (.int .i64 (p : Int))) none).run P w = .ok (.slice a' p c') w) ∧
      ∀ W xs, Row W (.slice a m c) m xs → Row W (.slice a' p c') p (xs.take (p * size)) := by
  have ht' : P.underlying t = some (.slice (P.elem t)) := by simp [Program.elem, ht]
  have he : P.elem t = e := by simp [Program.elem, ht]
  refine ⟨if c = 0 then a else a.map (·.add (0 * size)), c, fun w => ?_, ?_⟩
  · rw [run_slice_h w t a m c ht' .i64 (p : Int) (by omega) (by omega), he, hz]
    simp only [Result.andThen, sliced, Int.toNat_natCast, Nat.sub_zero]
  · intro W xs h
    have h2 := h.take (p * size)
    rcases h2 with ⟨hv, hn, hx⟩ | ⟨b, off, cap, hv, h3, h4, h5, h6⟩
    · simp only [Value.slice.injEq] at hv
      obtain ⟨rfl, rfl, rfl⟩ := hv
      obtain rfl : p = 0 := by omega
      exact .inl ⟨by simp, rfl, hx⟩
    · simp only [Value.slice.injEq] at hv
      obtain ⟨rfl, -, rfl⟩ := hv
      refine .inr ⟨b, off, c, by simp [Addr.add], by omega, h4, h5, h6⟩
/-- 's[p:]' of a row. -/
theorem sl_from {P : Program} (t e : TypeId) (size : Nat) (ht : P.underlying t = some (.slice e)) (hz : ∀ w, (Go.sizeOf e).run P w = .ok size w) (hs : 0 < size) (a : Option Addr) (m c p : Nat) (hp : p ≤ m) (hc : m ≤ c) :
    ∃ a' c', (∀ w, (Instr.slice t (.slice a m c) (some (.int .i64 (p : Int))) none none).run P w = .ok (.slice a' (m - p) c') w) ∧
      ∀ W xs, Row W (.slice a m c) m xs → xs.length = m * size → Row W (.slice a' (m - p) c') (m - p) (xs.drop (p * size)) := by
  have ht' : P.underlying t = some (.slice (P.elem t)) := by simp [Program.elem, ht]
  have he : P.elem t = e := by simp [Program.elem, ht]
  refine ⟨if c = p then a else a.map (·.add (p * size)), c - p, fun w => ?_, ?_⟩
  · rw [run_slice_l w t a m c ht' .i64 (p : Int) (by omega) (by omega), he, hz]
    simp only [Result.andThen, sliced, Int.toNat_natCast]
  · intro W xs h hl
    rcases h with ⟨hv, hn, hx⟩ | ⟨b, off, cap, hv, h3, h4, h5, h6⟩
    · simp only [Value.slice.injEq] at hv
      obtain ⟨rfl, rfl, rfl⟩ := hv
      obtain rfl : p = 0 := by omega
      exact .inl ⟨by simp, by omega, by simp [hx]⟩
    · simp only [Value.slice.injEq] at hv
      obtain ⟨rfl, -, rfl⟩ := hv
      by_cases hcp : c = p
      · subst hcp
        obtain rfl : m = c := by omega
        refine .inr ⟨b, off, 0, by simp, by omega, by omega, h5, fun j u hu => ?_⟩
        rw [List.drop_of_length_le (by omega)] at hu
        simp at hu
      · refine .inr ⟨b, off + p * size, c - p, ?_, by omega, by omega, h5, fun j u hu => ?_⟩
        · rw [if_neg hcp]
          simp only [Option.map_some, Addr.add]
          split
          · rename_i h0; rw [h0]; rfl
          · rfl
        · rw [List.getElem?_drop] at hu
          have := h6 _ _ hu
          rwa [← Nat.add_assoc] at this
end Go.Proofs.YtalipfnbpnkgnaaGreat

/- Plain arithmetic of multiplication, digit by digit. -/
namespace Go.Proofs.YtalipfnbpnkgnaaGreat

/-- The places below j hold z's digits, the others p's. -/
def mixD (m j z p : Nat) : List Nat := (List.range m).map fun i => if i < j then dig z i else dig p i
theorem mixD_length (m j z p : Nat) : (mixD m j z p).length = m := by simp [mixD]
theorem mixD_get {m j z p i : Nat} (h : i < m) : (mixD m j z p)[i]? = some (if i < j then dig z i else dig p i) := by simp [mixD, h]
theorem mixD_same (m j z : Nat) : mixD m j z z = Dn m z := eq_Dn (mixD_length _ _ _ _) fun i hi => by rw [mixD_get hi]; split <;> rfl
theorem mixD_start (m z p : Nat) : mixD m 0 z p = Dn m p := eq_Dn (mixD_length _ _ _ _) fun i hi => by rw [mixD_get hi, if_neg (by omega)]
theorem mixD_set {m j z z' p new : Nat} (h : j < m) (h1 : new = dig z' j) (h2 : ∀ i, i < j → dig z' i = dig z i) : (mixD m j z p).set j new = mixD m (j + 1) z' p := by
  apply List.ext_getElem?
  intro i
  by_cases hi : i < m
  · rw [mixD_get hi]
    by_cases e : i = j
    · subst e; rw [List.getElem?_set_self (by rw [mixD_length]; exact hi), if_pos (by omega), h1]
    · rw [List.getElem?_set_ne (fun h => e h.symm), mixD_get hi]
      by_cases hlt : i < j
      · rw [if_pos hlt, if_pos (by omega), h2 i hlt]
      · rw [if_neg hlt, if_neg (by omega)]
  · rw [List.getElem?_eq_none (by rw [List.length_set, mixD_length]; omega), List.getElem?_eq_none (by rw [mixD_length]; omega)]
/-- One place more. -/
theorem mul_step {Z P c de q : Nat} (h : Z / 4294967296 ^ q = P / 4294967296 ^ q + c) :
    (de + dig P q + c) % 4294967296 = dig (Z + de * 4294967296 ^ q) q ∧ (Z + de * 4294967296 ^ q) / 4294967296 ^ (q + 1) = P / 4294967296 ^ (q + 1) + (de + dig P q + c) / 4294967296 ∧
    ∀ i, i < q → dig (Z + de * 4294967296 ^ q) i = dig Z i := by
  have hp := pos_pow q
  have h1 : (Z + de * 4294967296 ^ q) / 4294967296 ^ q = P / 4294967296 ^ q + c + de := by rw [Nat.add_mul_div_right _ _ hp, h]
  refine ⟨?_, ?_, ?_⟩
  · unfold dig; rw [h1]; omega
  · rw [Nat.pow_succ, ← Nat.div_div_eq_div_mul, ← Nat.div_div_eq_div_mul, h1]; unfold dig; omega
  · intro i hi
    unfold dig
    have e : 4294967296 ^ q = 4294967296 ^ i * (4294967296 * 4294967296 ^ (q - i - 1)) := by
      rw [← Nat.pow_succ', ← Nat.pow_add]; congr 1; omega
    rw [e, Nat.mul_left_comm de, Nat.add_mul_div_left _ _ (pos_pow i), Nat.mul_left_comm de, Nat.add_mul_mod_self_left]
theorem mod_succ (x i : Nat) : x % 4294967296 ^ (i + 1) = x % 4294967296 ^ i + dig x i * 4294967296 ^ i := by
  unfold dig
  rw [Nat.pow_succ, Nat.mod_mul, Nat.mul_comm (4294967296 ^ i)]
theorem de_lt {d e : Nat} (hd : d < 4294967296) (he : e < 4294967296) : d * e ≤ 18446744065119617025 := Nat.mul_le_mul (show d ≤ 4294967295 by omega) (show e ≤ 4294967295 by omega)
/-- What has been multiplied when i places of x are done, and k places of y beside the place i. -/
def mulZ (x y i k : Nat) : Nat := (x % 4294967296 ^ i) * y + dig x i * (y % 4294967296 ^ k) * 4294967296 ^ i
theorem mulZ_zero (x y i : Nat) : mulZ x y i 0 = (x % 4294967296 ^ i) * y := by simp [mulZ, Nat.mod_one]
theorem mulZ_succ (x y i k : Nat) : mulZ x y i (k + 1) = mulZ x y i k + (dig x i * dig y k) * 4294967296 ^ (i + k) := by
  unfold mulZ
  rw [mod_succ y k, Nat.mul_add, Nat.add_mul, Nat.add_assoc, Nat.pow_add, Nat.mul_assoc (dig x i) (dig y k)]
  congr 2
  rw [Nat.mul_comm (4294967296 ^ i)]
  simp only [Nat.mul_assoc]
theorem mulZ_full (x y i n : Nat) (h : y < 4294967296 ^ n) : mulZ x y i n = (x % 4294967296 ^ (i + 1)) * y := by
  unfold mulZ
  rw [Nat.mod_eq_of_lt h, mod_succ, Nat.add_mul]
  congr 1
  rw [Nat.mul_assoc, Nat.mul_assoc, Nat.mul_comm y]
theorem mulP_lt (x y i n : Nat) (h : y < 4294967296 ^ n) : (x % 4294967296 ^ i) * y < 4294967296 ^ (i + n) := by
  rw [Nat.pow_add]
  have h1 : x % 4294967296 ^ i < 4294967296 ^ i := Nat.mod_lt _ (pos_pow i)
  exact Nat.mul_lt_mul'' h1 h
/-- The last place of a round. -/
theorem mul_last {x y i n c : Nat} (h : y < 4294967296 ^ n) (hz : mulZ x y i n / 4294967296 ^ (i + n) = (x % 4294967296 ^ i) * y / 4294967296 ^ (i + n) + c) (hc : c < 4294967296) :
    c = dig ((x % 4294967296 ^ (i + 1)) * y) (i + n) ∧ ∀ j, i + n < j → dig ((x % 4294967296 ^ (i + 1)) * y) j = 0 := by
  rw [Nat.div_eq_of_lt (mulP_lt x y i n h), Nat.zero_add, mulZ_full _ _ _ _ h] at hz
  constructor
  · unfold dig; rw [hz, Nat.mod_eq_of_lt hc]
  · intro j hj
    have h1 := mulP_lt x y (i + 1) n h
    have h2 : 4294967296 ^ (i + 1 + n) ≤ 4294967296 ^ j := Nat.pow_le_pow_right (by decide) (by omega)
    unfold dig
    rw [Nat.div_eq_of_lt (by omega)]
theorem mul_last_set {m x y i n c : Nat} (hm : i + n < m) (h : y < 4294967296 ^ n) (hz : mulZ x y i n / 4294967296 ^ (i + n) = (x % 4294967296 ^ i) * y / 4294967296 ^ (i + n) + c) (hc : c < 4294967296) :
    (mixD m (i + n) (mulZ x y i n) ((x % 4294967296 ^ i) * y)).set (i + n) c = Dn m ((x % 4294967296 ^ (i + 1)) * y) := by
  obtain ⟨h1, h2⟩ := mul_last h hz hc
  rw [mixD_set (z' := (x % 4294967296 ^ (i + 1)) * y) hm h1 (fun j _ => by rw [mulZ_full _ _ _ _ h])]
  refine eq_Dn (mixD_length _ _ _ _) fun j hj => ?_
  rw [mixD_get hj]
  split
  · rfl
  · rename_i hn
    rw [h2 j (by omega)]
    have h1 := mulP_lt x y i n h
    have h3 : 4294967296 ^ (i + n) ≤ 4294967296 ^ j := Nat.pow_le_pow_right (by decide) (by omega)
    unfold dig
    rw [Nat.div_eq_of_lt (by omega)]
theorem dg_mul_length (x y : Nat) : (dg (x * y)).length ≤ (dg x).length + (dg y).length := by
  refine dg_length_le ?_
  rw [Nat.pow_add]
  exact Nat.mul_lt_mul'' (lt_pow_dg x) (lt_pow_dg y)
end Go.Proofs.YtalipfnbpnkgnaaGreat

