/- Contracts and plain laws of several functions, one after the other: Base, Nat, Trim, NatB, Digits, StrE, NatC, NatM. -/
import Derived.Deep.RegionHeld3
import Derived.WalkKit
import Derived.WalkSpells
import Derived.WalkLawsBesides
import Derived.Lib.Hide
import Derived.RegionTactic
import Derived.BigRegion
import Derived.Deep.OwnRows
import Derived.Laws.IdiomStrings
import Derived.Laws.BytesString
import Derived.Test.YthpgeeaccmgbkaaGreatProg
import Derived.Laws.BitsAllLaws
/- General lemmas without the program: blocks of the call's own, slices that are read, small facts on bytes and endings. -/
namespace Go.Proofs.YthpgeeaccmgbkaaGreat
open Go.RowKit Go.Deep

/-- Block b holds the cells xs, none frozen. -/
def Blk (w : World) (b : Nat) (t : TypeId) (xs : List Value) : Prop := w.heap[b]? = some (.cells xs.toArray t (0, 0))

namespace Blk
variable {w w' : World} {b : Nat} {t : TypeId} {xs : List Value}
theorem lt (h : Blk w b t xs) : b < w.heap.size := (Array.getElem?_eq_some_iff.1 h).1
theorem cell (h : Blk w b t xs) {j : Nat} {u : Value} (hu : xs[j]? = some u) : w.cell? ⟨b, j, none⟩ = some u := by
 unfold Blk at h
 simp [World.cell?, h, hu]
theorem frozen (h : Blk w b t xs) (j : Nat) : w.frozen? ⟨b, j, none⟩ = false := by
 unfold Blk at h
 simp [World.frozen?, h]
theorem of_block (h : Blk w b t xs) (e : w'.heap[b]? = w.heap[b]?) : Blk w' b t xs := e.trans h
theorem set (h : Blk w b t xs) (j : Nat) (u : Value) : Blk (w.setCell ⟨b, j, none⟩ u) b t (xs.set j u) := by
 unfold Blk at h ⊢
 simp [World.setCell, Array.getElem?_modify, h]
theorem setOther (h : Blk w b t xs) {a : Addr} (ha : a.block ≠ b) (u : Value) : Blk (w.setCell a u) b t xs := h.of_block (Below.heap_setCell _ _ _ _ (fun e => ha e.symm))
theorem alloc (h : Blk w b t xs) (o : Obj) : Blk (w.alloc o) b t xs := h.of_block (Below.heap_alloc _ _ _ h.lt)
theorem drew (h : Blk w b t xs) : Blk w.drew b t xs := h
theorem below {B : Nat} (h : Blk w b t xs) (k : Below B w w') (hb : b < B) : Blk w' b t xs := h.of_block (k.block b hb)
theorem new (w : World) (t : TypeId) (xs : List Value) : Blk (w.alloc (.cells xs.toArray t (0, 0))) w.heap.size t xs :=
 heap_alloc_new w _
theorem congr {ys : List Value} (h : Blk w b t xs) (e : xs = ys) : Blk w b t ys := e ▸ h
end Blk

/-- The slice value v has n elements, whose cells (all of them, one after the other) are xs. -/
def Row (w : World) (v : Value) (n : Nat) (xs : List Value) : Prop :=
 (v = .slice none 0 0 ∧ n = 0 ∧ xs = []) ∨
 ∃ b off cap, v = .slice (some ⟨b, off, none⟩) n cap ∧ n ≤ cap ∧ cap ≤ maxLen ∧ b < w.heap.size ∧ ∀ j u, xs[j]? = some u → w.cell? ⟨b, off + j, none⟩ = some u

namespace Row
variable {w w' : World} {v : Value} {n : Nat} {xs : List Value}
theorem nil (w : World) : Row w (.slice none 0 0) 0 [] := .inl ⟨rfl, rfl, rfl⟩
theorem below {B : Nat} (h : Row w v n xs) (k : Below B w w') (hB : w.heap.size ≤ B) : Row w' v n xs := by
 rcases h with h | ⟨b, off, cap, hv, h1, h2, h3, h4⟩
 ·
  exact .inl h
 ·
  exact .inr ⟨b, off, cap, hv, h1, h2, by have := k.size; omega, fun j u hu => (k.cell (p := ⟨b, off + j, none⟩) (by show b < B; omega)).trans (h4 j u hu)⟩
theorem ofBlk {b : Nat} {t : TypeId} (h : Blk w b t xs) {m cap : Nat} (h1 : m ≤ cap) (h2 : cap ≤ maxLen) (k : Nat) : Row w (.slice (some ⟨b, 0, none⟩) m cap) m (xs.take k) :=
 .inr ⟨b, 0, cap, rfl, h1, h2, h.lt, fun j u hu => by
  rw [Nat.zero_add]; apply h.cell
  rw [List.getElem?_take] at hu
  split at hu
  ·
   exact hu
  ·
   cases hu⟩
theorem slice (h : Row w v n xs) : ∃ a cap, v = .slice a n cap ∧ n ≤ 9223372036854775807 := by
 rcases h with ⟨hv, hn, hx⟩ | ⟨b, off, cap, hv, h1, h2, h3, h4⟩
 ·
  exact ⟨_, _, by rw [hn]; exact hv, by omega⟩
 ·
  unfold maxLen at h2; exact ⟨_, _, hv, by omega⟩
theorem at_ {a : Option Addr} {cap : Nat} (h : Row w (.slice a n cap) n xs) (hn : 0 < n) : ∃ b off, a = some ⟨b, off, none⟩ ∧ b < w.heap.size ∧ ∀ j u, xs[j]? = some u → w.cell? ⟨b, off + j, none⟩ = some u := by
 rcases h with ⟨hv, hn', hx⟩ | ⟨b, off, cap, hv, h1, h2, h3, h4⟩
 ·
  omega
 ·
  simp only [Value.slice.injEq] at hv
  exact ⟨b, off, hv.1, h3, h4⟩
theorem take (h : Row w v n xs) (k : Nat) : Row w v n (xs.take k) := by
 rcases h with ⟨hv, hn, hx⟩ | ⟨b, off, cap, hv, h1, h2, h3, h4⟩
 ·
  exact .inl ⟨hv, hn, by simp [hx]⟩
 ·
  exact .inr ⟨b, off, cap, hv, h1, h2, h3, fun j u hu => h4 j u (by
   rw [List.getElem?_take] at hu
   split at hu
   ·
    exact hu
   ·
    cases hu)⟩
end Row

theorem Row.drew {w : World} {v : Value} {n : Nat} {xs : List Value} (h : Row w v n xs) : Row w.drew v n xs := h
/-- e returns a value, and nothing that was there has changed. -/
def Ret (w : World) (v : Value) (e : Ending) (w' : World) : Prop := Below w.heap.size w w' ∧ e = .returned v
theorem ret_int {k : IntKind} {a b : Int} (h : a = b) : Ending.returned (.int k a) = .returned (.int k b) := by rw [h]
theorem ret_of {a b : Value} (h : a = b) : Ending.returned a = .returned b := by rw [h]
theorem drop_at (s : ByteArray) (n : Nat) (h : n < s.size) : s.data.toList.drop n = s[n] :: s.data.toList.drop (n + 1) := by
 rw [List.drop_eq_getElem_cons (by simpa using h)]; rfl
theorem bytes_size (s : ByteArray) : s.data.toList.length = s.size := by simp
theorem madeOne (z : Value) (n : Nat) : madeCells #[z] n = (List.replicate n z).toArray := by
 apply Array.ext
 ·
  simp [madeCells]
 ·
  intro i h1 h2; simp [madeCells, Nat.mod_one]


theorem _root_.Go.RowKit.Below.of_alloc {B : Nat} {w w' : World} {o : Obj} (h : Below B (w.alloc o) w') (hB : B ≤ w.heap.size := by first | exact Nat.le_refl _ | simp) : Below B w w' :=
 ((Below.refl B w).alloc hB o).trans h
/-- What the call owns stays owned where only new blocks come. -/
theorem own_below {w w' : World} {base : Nat} {e : TypeId} {size : Nat} {v : Value} {n : Nat} {xs : List Value} (h : w.ownsRow base e size v n xs) (k : Below w.heap.size w w') : w'.ownsRow base e size v n xs := by
 refine ⟨h.1, ?_⟩
 rcases h.2 with hn | ⟨g, cap, cur, rfl, hb, hg, rest⟩
 ·
  exact .inl hn
 ·
  exact .inr ⟨g, cap, cur, rfl, hb, (k.block g (Array.getElem?_eq_some_iff.1 hg).1).trans hg, rest⟩
theorem own_row {w : World} {base : Nat} {e : TypeId} {size : Nat} {v : Value} {n : Nat} {xs : List Value} (h : w.ownsRow base e size v n xs) : Row w v n xs := by
 have hc := fun g hg => h.cells (g := g) hg
 obtain ⟨hl, h | ⟨g, cap, cur, rfl, hb, hg, h1, h2, h3, h4⟩⟩ := h
 ·
  obtain ⟨rfl, rfl⟩ := h
  exact .inl ⟨rfl, rfl, List.length_eq_zero_iff.1 (by omega)⟩
 ·
  refine .inr ⟨g, 0, cap, rfl, h1, h2, (Array.getElem?_eq_some_iff.1 hg).1, fun j u hu => ?_⟩
  have := hc g rfl j u hu
  unfold Addr.add at this
  split at this
  ·
   rename_i h0; subst h0; exact this
  ·
   exact this
theorem own_slice {w : World} {base : Nat} {e : TypeId} {size : Nat} {v : Value} {n : Nat} {xs : List Value} (h : w.ownsRow base e size v n xs) : ∃ a cap, v = .slice a n cap := by
 obtain ⟨hl, h | ⟨g, cap, cur, rfl, hb, hg, h1, h2, h3, h4⟩⟩ := h
 ·
  obtain ⟨rfl, rfl⟩ := h
  exact ⟨_, _, rfl⟩
 ·
  exact ⟨_, _, rfl⟩
theorem own_lt {w : World} {base : Nat} {e : TypeId} {size : Nat} {v : Value} {n : Nat} {xs : List Value} (h : w.ownsRow base e size v n xs) (hb : base ≤ w.heap.size) : ∀ k, v.ownBlock = some k → base ≤ k := fun k hk => (h.lt k hk).1

/-- 'append(s, x)' of one element, on a slice of the call's own: x has first been laid in a block of its own. -/
theorem app_one {P : Program} (W : World) {ops : Array Oper} {rest : List Oper} {o : Oper} {a : Act} {Q : Exit → Act → World → Prop} (hgd : o.guard = none) (s x : Operand) (t : TypeId)
  (ho : o.op = .call { callee := .builtin .append, args := #[s, x], argTypes := #[t, t] })
  (base : Nat) (e : TypeId) (z : Value) (size bytes : Nat) (ht : P.underlying t = some (.slice e)) (hinfo : (P.info? e).map (fun i => (i.zero, i.size, i.bytes)) = some (some z, size, bytes))
  (hzs : z.cells.size = size) (hsz : 0 < size)
  (v : Value) (n : Nat) (xs : List Value) (hs : a.eval s = v) (hown : W.ownsRow base e size v n xs)
  (news : List Value) (c : Nat) (hx : a.eval x = .slice (some ⟨W.heap.size, 0, none⟩) 1 c) (hl : news.length = size) (h1 : ∀ u ∈ news, u.oneCell' = true)
  (hbytes : (n + 1) * bytes ≤ 140737488355328) (h63 : n < 140737488355328) (hbase : base ≤ W.heap.size)
  (h : ∀ v' w', w'.ownsRow base e size v' (n + 1) (xs ++ news) → W.grownBy w' v.ownBlock → wpList P ops Q rest (a.put o.dst v') w') :
  wpList P ops Q (o :: rest) a (W.alloc (.cells news.toArray e (0, 0))) := by
 obtain ⟨i, hi, hz0, hz1, hz2⟩ := info_parts hinfo
 refine wpList_append_own _ hgd s x t ho base e i z size bytes ht hi hz0 hz1 hz2 hzs hsz v n xs hs (hown.alloc _) ⟨W.heap.size, 0, none⟩ 1 c news hx (by omega) ?_ h1 (by unfold maxLen; omega) hbytes (by simp; omega) ?_
 ·
  intro j u hu
  have hb := Blk.new W e news
  have := hb.cell hu
  unfold Addr.add
  split
  ·
   rename_i h0; subst h0; exact this
  ·
   simpa using this
 ·
  intro v' w' h2 h3 _
  refine h v' w' h2 ⟨h3.os, h3.tape, h3.output, by have := h3.size; simp at this; omega, fun k hk hne => ?_⟩
  rw [h3.block k (by simp; omega) hne, Below.heap_alloc _ _ _ hk]

/-- n zero values, one after the other. -/
def zrow (z : Value) (c : Nat) : List Value := (List.replicate c z.cells.toList).flatten
def zarr (z : Value) (c : Nat) : Array Value := (zrow z c).toArray
theorem zrow_length (z : Value) (c : Nat) : (zrow z c).length = c * z.cells.size := by simp [zrow]
theorem zrow_one (z : Value) (c : Nat) (h : z.cells = #[z]) : zrow z c = List.replicate c z := by
 rw [zrow, h]
 induction c with
 | zero => rfl
 | succ c ih => rw [List.replicate_succ, List.flatten_cons, ih, List.replicate_succ]; rfl
theorem flat_get (l : List Value) (c i : Nat) (h : i < c * l.length) : (List.replicate c l).flatten[i]? = l[i % l.length]? := by
 induction c generalizing i with
 | zero => simp at h
 | succ c ih =>
  rw [List.replicate_succ, List.flatten_cons, List.getElem?_append]
  split
  ·
   rename_i h1; rw [Nat.mod_eq_of_lt h1]
  ·
   rename_i h1
   rw [ih _ (by rw [Nat.succ_mul] at h; omega), ← Nat.mod_eq_sub_mod (by omega)]
theorem zarr_eq (z : Value) (c : Nat) : madeCells z.cells (c * z.cells.size) = zarr z c := by
 apply Array.ext
 ·
  simp [madeCells, zarr, zrow_length]
 ·
  intro i h1 h2
  have h1' : i < c * z.cells.toList.length := by simpa [madeCells] using h1
  have h3 : 0 < z.cells.size := by
   rcases Nat.eq_zero_or_pos z.cells.size with h | h
   ·
    simp [h] at h1'
   ·
    exact h
  have h4 : i % z.cells.size < z.cells.size := Nat.mod_lt _ h3
  have h5 := flat_get z.cells.toList c i h1'
  have h6 : (zarr z c)[i]? = z.cells[i % z.cells.size]? := by simpa [zarr, zrow] using h5
  rw [Array.getElem?_eq_getElem h2, Array.getElem?_eq_getElem h4, Option.some.injEq] at h6
  rw [h6]
  simp [madeCells, h4]
theorem Blk.zero (w : World) (t : TypeId) (z : Value) (c : Nat) : Blk (w.alloc (.cells (zarr z c) t)) w.heap.size t (zrow z c) := Blk.new w t (zrow z c)
/-- 'make([]T, l, c)'. -/
theorem mk_slice {P : Program} (t e : TypeId) (z : Value) (size bytes : Nat) (ht : P.underlying t = some (.slice e)) (hinfo : (P.info? e).map (fun i => (i.zero, i.size, i.bytes)) = some (some z, size, bytes)) (hz : z.cells.size = size)
  (kl kc : IntKind) (l c : Nat) (hlc : l ≤ c) (hb : bytes * c ≤ 281474976710656) (h63 : c ≤ 9223372036854775807) (L C : Int) (hL : L = (l : Int)) (hC : C = (c : Int)) (w : World) :
  (Instr.makeSlice t (.int kl L) (.int kc C)).run P w = .ok (.slice (some ⟨w.heap.size, 0, none⟩) l c) (w.alloc (.cells (zarr z c) e)) := by
 subst hL hC
 obtain ⟨i, hi, hz0, hz1, hz2⟩ := info_parts hinfo
 have hbi : (i.bytes : Int) * (c : Int) ≤ 281474976710656 := by
  rw [hz2]
  have h : ((bytes * c : Nat) : Int) ≤ 281474976710656 := by omega
  rwa [Int.natCast_mul] at h
 have h := run_make (P := P) w t e i z ht hi hz0 kl kc l c (by omega) (by omega) hbi (by omega)
 simp only [Int.toNat_natCast, hz1, ← hz, zarr_eq] at h
 exact h
/-- A slice that make has laid is the call's own. -/
theorem own_made (w : World) (base : Nat) (e : TypeId) (z : Value) (c : Nat) (hb : base ≤ w.heap.size) (hm : c ≤ maxLen) : (w.alloc (.cells (zarr z c) e)).ownsRow base e z.cells.size (.slice (some ⟨w.heap.size, 0, none⟩) 0 c) 0 [] :=
 World.ownsRow_made w _ c hb hm (by simp [zarr, zrow_length])
/-- Cells of bytes. -/
def cb (l : List UInt8) : List Value := l.map fun (c : UInt8) => Value.int .u8 (c.toNat : Int)
theorem cb_length (l : List UInt8) : (cb l).length = l.length := by simp [cb]
theorem cb_append (l k : List UInt8) : cb (l ++ k) = cb l ++ cb k := by simp [cb]
/-- 'string(b)'. -/
theorem conv_row {P : Program} (w : World) (src dst e : TypeId) (hs : P.underlying src = some (.slice e)) (he : P.underlying e = some (.int .u8)) (hd : P.underlying dst = some .string)
  (a : Option Addr) (cap : Nat) (l : List UInt8) (h : Row w (.slice a l.length cap) l.length (cb l)) :
  (convert src dst (.slice a l.length cap)).run P w = .ok (.string ⟨l.toArray⟩) w := by
 rcases h with ⟨hv, hn, hx⟩ | ⟨b, off, cap', hv, h1, h2, h3, h4⟩
 ·
  have hl : l = [] := List.length_eq_zero_iff.1 hn
  subst hl
  simp only [Value.slice.injEq] at hv
  obtain ⟨rfl, _, rfl⟩ := hv
  rw [run_convert_bytes_string w src dst e none _ _ hs he hd]
  rfl
 ·
  simp only [Value.slice.injEq] at hv
  obtain ⟨rfl, _, rfl⟩ := hv
  refine run_convert_bytes_back w src dst e _ _ l hs he hd fun j hj => ?_
  have := h4 j (.int .u8 (l[j].toNat : Int)) (by simp [cb, hj])
  unfold Addr.add
  split
  ·
   rename_i h0; subst h0; exact this
  ·
   exact this
end Go.Proofs.YthpgeeaccmgbkaaGreat

/- Plain arithmetic without the program: digits to the base 2^32 (least first) and to the base 256 (most significant first). -/
namespace Go.Proofs.YthpgeeaccmgbkaaGreat

/-- The digit of x at place i, to the base 2^32. -/
def dig (x i : Nat) : Nat := x / 4294967296 ^ i % 4294967296
theorem dig_lt (x i : Nat) : dig x i < 4294967296 := Nat.mod_lt _ (by decide)
/-- The lowest m digits. -/
def Dn : Nat → Nat → List Nat
 | 0, _ => []
 | m + 1, x => x % 4294967296 :: Dn m (x / 4294967296)
/-- All digits, without zeros at the end. -/
def dg (x : Nat) : List Nat := if h : x = 0 then [] else (x % 4294967296) :: dg (x / 4294967296)
termination_by x
decreasing_by omega
/-- The value of digits. -/
def val : List Nat → Nat
 | [] => 0
 | d :: t => d + 4294967296 * val t
/-- Without zeros at the end. -/
def tz : List Nat → List Nat
 | [] => []
 | d :: t => if d = 0 ∧ tz t = [] then [] else d :: tz t

theorem dg_zero : dg 0 = [] := by rw [dg]; simp
theorem dg_pos {x : Nat} (h : 0 < x) : dg x = (x % 4294967296) :: dg (x / 4294967296) := by rw [dg, dif_neg (by omega)]
theorem dg_nil {x : Nat} (h : dg x = []) : x = 0 := by
 rw [dg] at h
 split at h
 ·
  assumption
 ·
  cases h
theorem val_dg (x : Nat) : val (dg x) = x := by
 induction x using Nat.strongRecOn with
 | _ x ih =>
  by_cases h : x = 0
  ·
   subst h; rw [dg_zero]; rfl
  ·
   rw [dg_pos (by omega), val, ih _ (by omega)]; omega
theorem dg_lt (x : Nat) : ∀ d ∈ dg x, d < 4294967296 := by
 induction x using Nat.strongRecOn with
 | _ x ih =>
  by_cases h : x = 0
  ·
   subst h; rw [dg_zero]; simp
  ·
   rw [dg_pos (by omega)]
   intro d hd
   rcases List.mem_cons.1 hd with rfl | hd
   ·
    omega
   ·
    exact ih _ (by omega) d hd
theorem dig_zero (x : Nat) : dig x 0 = x % 4294967296 := by simp [dig]
theorem dig_succ (x i : Nat) : dig x (i + 1) = dig (x / 4294967296) i := by
 unfold dig; rw [Nat.pow_succ, Nat.mul_comm, Nat.div_div_eq_div_mul]
theorem dig_of_zero (i : Nat) : dig 0 i = 0 := by simp [dig]

theorem Dn_length (m x : Nat) : (Dn m x).length = m := by
 induction m generalizing x with
 | zero => rfl
 | succ m ih => simp [Dn, ih]
theorem Dn_get (m x i : Nat) (h : i < m) : (Dn m x)[i]? = some (dig x i) := by
 induction m generalizing x i with
 | zero => omega
 | succ m ih =>
  cases i with
  | zero => simp [Dn, dig_zero]
  | succ i => simp only [Dn, List.getElem?_cons_succ]; rw [ih _ _ (by omega), dig_succ]
theorem dg_get (x i : Nat) (h : i < (dg x).length) : (dg x)[i]? = some (dig x i) := by
 induction i generalizing x with
 | zero =>
  by_cases hx : x = 0
  ·
   subst hx; rw [dg_zero] at h; simp at h
  ·
   rw [dg_pos (by omega)]; simp [dig_zero]
 | succ i ih =>
  by_cases hx : x = 0
  ·
   subst hx; rw [dg_zero] at h; simp at h
  ·
   rw [dg_pos (by omega)] at h ⊢
   simp only [List.getElem?_cons_succ]
   rw [ih _ (by simpa using h), dig_succ]
theorem dig_beyond (x i : Nat) (h : (dg x).length ≤ i) : dig x i = 0 := by
 induction i generalizing x with
 | zero =>
  have : x = 0 := dg_nil (List.length_eq_zero_iff.1 (by omega))
  subst this; exact dig_of_zero 0
 | succ i ih =>
  by_cases hx : x = 0
  ·
   subst hx; exact dig_of_zero _
  ·
   rw [dg_pos (by omega)] at h
   rw [dig_succ]; exact ih _ (by simpa using h)
theorem pos_pow (i : Nat) : 0 < 4294967296 ^ i := Nat.pow_pos (by decide)
theorem lt_pow_dg (x : Nat) : x < 4294967296 ^ (dg x).length := by
 induction x using Nat.strongRecOn with
 | _ x ih =>
  by_cases h : x = 0
  ·
   subst h; rw [dg_zero]; decide
  ·
   rw [dg_pos (by omega)]
   have := ih (x / 4294967296) (by omega)
   simp only [List.length_cons, Nat.pow_succ]
   omega
theorem pow_le_dg (x : Nat) (h : 0 < x) : 4294967296 ^ ((dg x).length - 1) ≤ x := by
 induction x using Nat.strongRecOn with
 | _ x ih =>
  rw [dg_pos h]
  simp only [List.length_cons, Nat.add_sub_cancel]
  by_cases hq : x / 4294967296 = 0
  ·
   rw [hq, dg_zero]; simp; omega
  ·
   have h1 := ih (x / 4294967296) (by omega) (by omega)
   have h2 : 0 < (dg (x / 4294967296)).length := by
    rw [dg_pos (by omega)]; simp
   have e : (dg (x / 4294967296)).length = (dg (x / 4294967296)).length - 1 + 1 := by omega
   rw [e, Nat.pow_succ]
   omega
theorem dg_length_le {x m : Nat} (h : x < 4294967296 ^ m) : (dg x).length ≤ m := by
 by_cases hx : 0 < x
 ·
  have h1 := pow_le_dg x hx
  have h2 : 4294967296 ^ ((dg x).length - 1) < 4294967296 ^ m := by omega
  have := (Nat.pow_lt_pow_iff_right (a := 4294967296) (by decide)).1 h2
  omega
 ·
  have : x = 0 := by omega
  subst this; rw [dg_zero]; simp
theorem tz_lt {l : List Nat} (h : ∀ d ∈ l, d < 4294967296) : dg (val l) = tz l := by
 induction l with
 | nil => simp [val, tz, dg_zero]
 | cons d t ih =>
  have hd : d < 4294967296 := h d (by simp)
  have ht := ih (fun e he => h e (by simp [he]))
  rw [val, tz]
  by_cases h0 : d = 0 ∧ tz t = []
  ·
   rw [if_pos h0]
   have hv : val t = 0 := dg_nil (ht.trans h0.2)
   rw [hv, h0.1]; exact dg_zero
  ·
   rw [if_neg h0]
   have hp : 0 < d + 4294967296 * val t := by
    by_cases hd0 : d = 0
    ·
     have : val t ≠ 0 := fun e => h0 ⟨hd0, by rw [← ht, e, dg_zero]⟩
     omega
    ·
     omega
   rw [dg_pos hp]
   have e1 : (d + 4294967296 * val t) % 4294967296 = d := by omega
   have e2 : (d + 4294967296 * val t) / 4294967296 = val t := by omega
   rw [e1, e2, ht]
theorem tz_length (l : List Nat) : (tz l).length ≤ l.length := by
 induction l with
 | nil => simp [tz]
 | cons d t ih => rw [tz]; split <;> simp <;> omega
theorem tz_snoc_zero (l : List Nat) : tz (l ++ [0]) = tz l := by
 induction l with
 | nil => simp [tz]
 | cons d t ih => simp only [List.cons_append, tz, ih]
theorem tz_snoc_pos (l : List Nat) (d : Nat) (h : d ≠ 0) : tz (l ++ [d]) = l ++ [d] := by
 induction l with
 | nil => simp [tz, h]
 | cons e t ih => simp [tz, ih]
theorem Dn_lt (m x : Nat) : ∀ d ∈ Dn m x, d < 4294967296 := by
 induction m generalizing x with
 | zero => simp [Dn]
 | succ m ih =>
  intro d hd
  rcases List.mem_cons.1 hd with rfl | hd
  ·
   omega
  ·
   exact ih _ d hd
theorem val_Dn (m x : Nat) : val (Dn m x) = x % 4294967296 ^ m := by
 induction m generalizing x with
 | zero => simp [Dn, val, Nat.mod_one]
 | succ m ih =>
  simp only [Dn, val]
  rw [ih, Nat.pow_succ, Nat.mul_comm (4294967296 ^ m), Nat.mod_mul]
theorem tz_Dn {m x : Nat} (h : x < 4294967296 ^ m) : tz (Dn m x) = dg x := by
 rw [← tz_lt (Dn_lt m x), val_Dn, Nat.mod_eq_of_lt h]
/-- A list of digits is told by its places. -/
theorem eq_Dn {l : List Nat} {m x : Nat} (hl : l.length = m) (h : ∀ i, i < m → l[i]? = some (dig x i)) : l = Dn m x := by
 apply List.ext_getElem?
 intro i
 by_cases hi : i < m
 ·
  rw [h i hi, Dn_get _ _ _ hi]
 ·
  rw [List.getElem?_eq_none (by omega), List.getElem?_eq_none (by rw [Dn_length]; omega)]
theorem Dn_zero (m : Nat) : Dn m 0 = List.replicate m 0 := by
 induction m with
 | zero => rfl
 | succ m ih => simp [Dn, ih, List.replicate_succ]

/-! ### Bytes, the most significant one first -/

/-- The value of bytes. -/
def bval : List UInt8 → Nat
 | [] => 0
 | c :: t => c.toNat * 256 ^ t.length + bval t
theorem bval_lt (l : List UInt8) : bval l < 256 ^ l.length := by
 induction l with
 | nil => simp [bval]
 | cons c t ih =>
  have : c.toNat < 256 := UInt8.toNat_lt c
  simp only [bval, List.length_cons, Nat.pow_succ]
  have : c.toNat * 256 ^ t.length ≤ 255 * 256 ^ t.length := Nat.mul_le_mul_right _ (by omega)
  omega
theorem bval_snoc (l : List UInt8) (c : UInt8) : bval (l ++ [c]) = 256 * bval l + c.toNat := by
 induction l with
 | nil => simp [bval]
 | cons d t ih =>
  simp only [List.cons_append, bval, ih, List.length_append, List.length_cons, List.length_nil, Nat.zero_add, Nat.pow_succ]
  rw [Nat.mul_add, ← Nat.add_assoc]
  congr 2
  rw [Nat.mul_comm (256 ^ t.length), ← Nat.mul_assoc, ← Nat.mul_assoc, Nat.mul_comm 256]
/-- The bytes of a number, without zeros ahead. -/
def bb (x : Nat) : List UInt8 := if h : x = 0 then [] else bb (x / 256) ++ [UInt8.ofNat (x % 256)]
termination_by x
decreasing_by omega
theorem bb_zero : bb 0 = [] := by rw [bb]; simp
theorem bb_pos {x : Nat} (h : 0 < x) : bb x = bb (x / 256) ++ [UInt8.ofNat (x % 256)] := by rw [bb, dif_neg (by omega)]
theorem bb_step (y c : Nat) (hc : c < 256) (h : 0 < y ∨ 0 < c) : bb (256 * y + c) = bb y ++ [UInt8.ofNat c] := by
 rw [bb_pos (by omega)]
 have e1 : (256 * y + c) / 256 = y := by omega
 have e2 : (256 * y + c) % 256 = c := by omega
 rw [e1, e2]
theorem bval_bb (x : Nat) : bval (bb x) = x := by
 induction x using Nat.strongRecOn with
 | _ x ih =>
  by_cases h : x = 0
  ·
   subst h; rw [bb_zero]; rfl
  ·
   rw [bb_pos (by omega), bval_snoc, ih _ (by omega)]
   have : (UInt8.ofNat (x % 256)).toNat = x % 256 := by simp
   rw [this]; omega
theorem bb_inj {x y : Nat} (h : bb x = bb y) : x = y := by rw [← bval_bb x, ← bval_bb y, h]
theorem bb_nil {x : Nat} (h : bb x = []) : x = 0 := bb_inj (h.trans bb_zero.symm)
theorem bb_pos_of {x : Nat} (h : (bb x).length ≠ 0) : 0 < x := by
 rcases Nat.eq_zero_or_pos x with e | e
 ·
  subst e; rw [bb_zero] at h; exact absurd rfl h
 ·
  exact e
theorem bb_length_le {x m : Nat} (h : x < 256 ^ m) : (bb x).length ≤ m := by
 induction m generalizing x with
 | zero =>
  have : x = 0 := by simpa using h
  subst this; simp [bb_zero]
 | succ m ih =>
  by_cases hx : x = 0
  ·
   subst hx; simp [bb_zero]
  ·
   rw [bb_pos (by omega)]
   have := ih (x := x / 256) (by rw [Nat.pow_succ] at h; omega)
   simp; omega
theorem lt_pow_bb (x : Nat) : x < 256 ^ (bb x).length := by
 have := bval_lt (bb x); rwa [bval_bb] at this
end Go.Proofs.YthpgeeaccmgbkaaGreat

/- The contract of integer.trim: it returns the same slice, without the zeros at its end; it changes nothing. -/
namespace Go.Proofs.YthpgeeaccmgbkaaGreat
open Go.RowKit

/-- Cells of digits. -/
def cs32 (l : List Nat) : List Value := l.map fun (d : Nat) => Value.int .u32 (d : Int)
theorem cs32_length (l : List Nat) : (cs32 l).length = l.length := by simp [cs32]
theorem cs32_get {l : List Nat} {i d : Nat} (h : l[i]? = some d) : (cs32 l)[i]? = some (.int .u32 (d : Int)) := by simp [cs32, h]

def TrimPost (w : World) (v : Value) (ds : List Nat) (e : Ending) (w' : World) : Prop :=
 w = w' ∧ ∃ v', e = .returned v' ∧ Row w v' (tz ds).length (cs32 (tz ds))

set_option maxHeartbeats 400000 in
theorem trim_any (ds : List Nat) (v : Value) (w : World) (h : Row w v ds.length (cs32 ds)) :
  Calls Tryz.prog 105 #[v] w (TrimPost w v ds) := by
 rcases h with ⟨rfl, h1, h2⟩ | ⟨b, off, cap, rfl, h1, h2, h3, h4⟩
 ·
  have hd : ds = [] := List.length_eq_zero_iff.1 h1
  subst hd
  clear h1 h2
  go_enter Tryz.func105, Tryz.ntmps105
  go_wp2
  go_loop [0] (fun x => x = .slice none 0 0) (fun _ => 0)
  case atStart => rfl
  case round =>
   subst hrel
   go_wp2
   go_ret
   exact ⟨rfl, .slice none 0 0, rfl, Row.nil w⟩
 ·
  unfold maxLen at h2
  have hlen : ds.length ≤ 9223372036854775807 := by omega
  go_enter Tryz.func105, Tryz.ntmps105
  go_wp2
  go_loop [0] (fun x => ∃ k : Nat, k ≤ ds.length ∧ x = .slice (some ⟨b, off, none⟩) k cap ∧ tz (ds.take k) = tz ds) (fun x => match x with | .slice _ k _ => k | _ => 0)
  case atStart => exact ⟨ds.length, Nat.le_refl _, rfl, by simp⟩
  case round =>
   obtain ⟨k, hk, rfl, he⟩ := hrel
   have HE := Lib.hid he; clear he
   cases k with
   | zero =>
    go_wp2
    go_ret
    refine ⟨rfl, .slice (some ⟨b, off, none⟩) 0 cap, rfl, ?_⟩
    rw [← HE.out]
    exact .inr ⟨b, off, cap, rfl, by simp [tz], h2, h3, by simp [tz, cs32]⟩
   | succ k =>
    have hget : ds[k]? = some (ds[k]'(by omega)) := List.getElem?_eq_getElem _
    obtain ⟨d, hd⟩ : ∃ d, d = ds[k]'(by omega) := ⟨_, rfl⟩
    rw [← hd] at hget; clear hd
    have hcell : w.cell? ⟨b, off + k, none⟩ = some (.int .u32 (d : Int)) := h4 k _ (cs32_get hget)
    have HG := Lib.hid hget; clear hget
    have H4 := Lib.hid h4; clear h4
    by_cases h0 : d = 0
    ·
     subst h0
     go_wp2
     go_round
     case rel => exact ⟨k, by omega, rfl, by rw [← HE.out, List.take_add_one, HG.out]; simp [tz_snoc_zero]⟩
     case measure => simp
    ·
     have hz : ((d : Int) == 0) = false := by simp; omega
     go_wp2
     go_ret
     refine ⟨rfl, .slice (some ⟨b, off, none⟩) (k + 1) cap, rfl, ?_⟩
     have e : tz ds = ds.take (k + 1) := by rw [← HE.out, List.take_add_one, HG.out]; simp [tz_snoc_pos _ _ h0]
     rw [e]
     exact .inr ⟨b, off, cap, by rw [List.length_take, Nat.min_eq_left hk], by rw [List.length_take]; omega, h2, h3, fun j u hu => H4.out j u (by
      simp only [cs32, List.map_take, List.getElem?_take] at hu
      split at hu
      ·
       exact hu
      ·
       cases hu)⟩
end Go.Proofs.YthpgeeaccmgbkaaGreat

/- Plain arithmetic without the program: bytes into digits to the base 2^32 and back. -/
namespace Go.Proofs.YthpgeeaccmgbkaaGreat

theorem pow256 (k : Nat) : 256 ^ k = 4294967296 ^ (k / 4) * 256 ^ (k % 4) := by
 have : (4294967296 : Nat) = 256 ^ 4 := by decide
 rw [this, ← Nat.pow_mul, ← Nat.pow_add]
 congr 1; omega
theorem pow2_256 (r : Nat) : 2 ^ (8 * r) = 256 ^ r := by rw [Nat.pow_mul]
theorem pow256_lt {r : Nat} (h : r < 4) : 256 ^ (r + 1) ≤ 4294967296 := by
 have : 256 ^ (r + 1) ≤ 256 ^ 4 := Nat.pow_le_pow_right (by decide) (by omega)
 have e : 256 ^ 4 = 4294967296 := by decide
 omega

theorem dig_set {X X' m q new : Nat} (h1 : new = dig X' q) (h2 : ∀ i, i ≠ q → dig X' i = dig X i) : (Dn m X).set q new = Dn m X' := by
 refine eq_Dn (by simp [Dn_length]) fun i hi => ?_
 by_cases e : i = q
 ·
  subst e; rw [List.getElem?_set_self (by rw [Dn_length]; exact hi), h1]
 ·
  rw [List.getElem?_set_ne (fun h => e h.symm), Dn_get _ _ _ hi, h2 i e]

/-- One byte more, at place k from the end. -/
theorem byte_in {X k c : Nat} (hX : X < 256 ^ k) (hc : c < 256) :
  dig X (k / 4) ||| (c % 4294967296 * 2 ^ (8 * (k % 4)) % 4294967296) = dig (c * 256 ^ k + X) (k / 4) ∧ ∀ i, i ≠ k / 4 → dig (c * 256 ^ k + X) i = dig X i := by
 have hp := pos_pow (k / 4)
 have hr := pow256_lt (r := k % 4) (by omega)
 rw [Nat.pow_succ] at hr
 have hX' : X < 4294967296 ^ (k / 4) * 256 ^ (k % 4) := by rw [← pow256]; exact hX
 have hq : X / 4294967296 ^ (k / 4) < 256 ^ (k % 4) := (Nat.div_lt_iff_lt_mul hp).2 (by rw [Nat.mul_comm]; exact hX')
 have hcr : c * 256 ^ (k % 4) ≤ 255 * 256 ^ (k % 4) := Nat.mul_le_mul_right _ (by omega)
 have hdiv : (c * 256 ^ k + X) / 4294967296 ^ (k / 4) = c * 256 ^ (k % 4) + X / 4294967296 ^ (k / 4) := by
  rw [pow256 k, show c * (4294967296 ^ (k / 4) * 256 ^ (k % 4)) = 4294967296 ^ (k / 4) * (c * 256 ^ (k % 4)) by rw [Nat.mul_left_comm], Nat.mul_add_div hp]
 constructor
 ·
  unfold dig
  rw [hdiv, Nat.mod_eq_of_lt (show X / 4294967296 ^ (k / 4) < 4294967296 by omega), Nat.mod_eq_of_lt (show c < 4294967296 by omega), pow2_256,
   Nat.mod_eq_of_lt (show c * 256 ^ (k % 4) < 4294967296 by omega), Nat.mod_eq_of_lt (show c * 256 ^ (k % 4) + X / 4294967296 ^ (k / 4) < 4294967296 by omega)]
  have h := Nat.shiftLeft_add_eq_or_of_lt (b := X / 4294967296 ^ (k / 4)) (i := 8 * (k % 4)) (by rw [pow2_256]; exact hq) c
  rw [Nat.shiftLeft_eq, pow2_256] at h
  rw [h, Nat.or_comm]
 ·
  intro i hi
  unfold dig
  rcases Nat.lt_or_gt_of_ne hi with hlt | hgt
  ·
   have e : 256 ^ k = 4294967296 ^ i * (4294967296 * (4294967296 ^ (k / 4 - i - 1) * 256 ^ (k % 4))) := by
    have e1 : 4294967296 ^ (k / 4) = 4294967296 ^ i * (4294967296 * 4294967296 ^ (k / 4 - i - 1)) := by
     rw [Nat.mul_comm 4294967296, ← Nat.pow_succ, ← Nat.pow_add]; congr 1; omega
    rw [pow256 k, e1]
    simp only [Nat.mul_assoc]
   rw [e, Nat.mul_left_comm c, Nat.mul_add_div (pos_pow i), Nat.mul_left_comm c, Nat.mul_add_mod]
  ·
   have hle : 4294967296 ^ (k / 4 + 1) ≤ 4294967296 ^ i := Nat.pow_le_pow_right (by decide) hgt
   rw [Nat.pow_succ] at hle
   have h1 : 256 ^ k * 256 ≤ 4294967296 ^ (k / 4) * 4294967296 := by
    rw [pow256 k, Nat.mul_assoc]; exact Nat.mul_le_mul_left _ hr
   have h2 : c * 256 ^ k ≤ 255 * 256 ^ k := Nat.mul_le_mul_right _ (by omega)
   rw [Nat.div_eq_of_lt (by omega), Nat.div_eq_of_lt (by omega)]

/-- One byte more, from above: the byte at place q of the digit at place j. -/
theorem byte_out (x j q : Nat) (hq : q < 4) : x / 4294967296 ^ j / 256 ^ q = 256 * (x / 4294967296 ^ j / 256 ^ (q + 1)) + dig x j / 2 ^ (8 * q) % 256 := by
 unfold dig
 have h : x / 4294967296 ^ j % 4294967296 / 2 ^ (8 * q) % 256 = x / 4294967296 ^ j / 256 ^ q % 256 := by
  generalize x / 4294967296 ^ j = z
  have e : (4294967296 : Nat) = 256 ^ q * (256 * 256 ^ (3 - q)) := by
   rw [← Nat.pow_succ', ← Nat.pow_add, show q + (3 - q + 1) = 4 by omega]
  rw [pow2_256]
  conv => lhs; rw [e]
  rw [Nat.mod_mul_right_div_self, Nat.mod_mul_right_mod]
 rw [h, Nat.pow_succ, ← Nat.div_div_eq_div_mul]
 omega
theorem bval_drop (l : List UInt8) (k : Nat) (h : k < l.length) : bval (l.drop (l.length - (k + 1))) = (l[l.length - 1 - k]'(by omega)).toNat * 256 ^ k + bval (l.drop (l.length - k)) := by
 rw [List.drop_eq_getElem_cons (by omega), bval]
 have e1 : l.length - (k + 1) + 1 = l.length - k := by omega
 have e2 : l.length - (k + 1) = l.length - 1 - k := by omega
 simp only [e1, List.length_drop]
 have e3 : l.length - (l.length - k) = k := by omega
 rw [e3]
 congr 3
 simp [e2]
theorem bval_drop_lt (l : List UInt8) (k : Nat) : bval (l.drop (l.length - k)) < 256 ^ k := by
 have h := bval_lt (l.drop (l.length - k))
 have h2 : 256 ^ (l.drop (l.length - k)).length ≤ 256 ^ k := Nat.pow_le_pow_right (by decide) (by simp; omega)
 omega
/-- The new digit in the walk's own spelling. -/
theorem or_cell {d c r : Nat} (hd : d < 4294967296) : bits BinOp.or IntKind.u32 (d : Int) ((c : Int) % 4294967296 * 2 ^ (8 * r) % 4294967296) = ((d ||| (c % 4294967296 * 2 ^ (8 * r) % 4294967296) : Nat) : Int) := by
 have e : ((c : Int) % 4294967296 * 2 ^ (8 * r) % 4294967296) = ((c % 4294967296 * 2 ^ (8 * r) % 4294967296 : Nat) : Int) := by
  simp only [Int.natCast_emod, Int.natCast_mul, Int.natCast_pow]; rfl
 rw [e]
 exact u32_or_nat _ _ hd (Nat.mod_lt _ (by decide))

/-! ### Comparing, adding, subtracting digit by digit -/

/-- As a comparison tells it. -/
def cmpN (x y : Nat) : Int := if x < y then -1 else if x = y then 0 else 1
theorem cmpN_lt {x y : Nat} (h : x < y) : cmpN x y = -1 := by simp [cmpN, h]
theorem cmpN_gt {x y : Nat} (h : y < x) : cmpN x y = 1 := by unfold cmpN; rw [if_neg (by omega), if_neg (by omega)]
theorem cmpN_eq (x : Nat) : cmpN x x = 0 := by simp [cmpN]
theorem lt_of_len {x y : Nat} (h : (dg x).length < (dg y).length) : x < y := by
 have h1 := lt_pow_dg x
 have h2 : 0 < y := by
  rcases Nat.eq_zero_or_pos y with e | e
  ·
   subst e; rw [dg_zero] at h; simp at h
  ·
   exact e
 have h3 := pow_le_dg y h2
 have h4 : 4294967296 ^ (dg x).length ≤ 4294967296 ^ ((dg y).length - 1) := Nat.pow_le_pow_right (by decide) (by omega)
 omega
theorem div_step (x j : Nat) : x / 4294967296 ^ j = 4294967296 * (x / 4294967296 ^ (j + 1)) + dig x j := by
 unfold dig
 rw [Nat.pow_succ, ← Nat.div_div_eq_div_mul]; omega
theorem lt_of_div {x y j : Nat} (h : x / 4294967296 ^ (j + 1) = y / 4294967296 ^ (j + 1)) (hd : dig x j < dig y j) : x < y := by
 have h1 := div_step x j
 have h2 := div_step y j
 rcases Nat.lt_or_ge x y with h3 | h3
 ·
  exact h3
 ·
  have := Nat.div_le_div_right (c := 4294967296 ^ j) h3
  omega
/-- The carry in front of place k. -/
def carry (x y k : Nat) : Nat := (x + y) / 4294967296 ^ k - x / 4294967296 ^ k - y / 4294967296 ^ k
theorem carry_div (x y k : Nat) : (x + y) / 4294967296 ^ k = x / 4294967296 ^ k + y / 4294967296 ^ k + carry x y k ∧ carry x y k ≤ 1 := by
 unfold carry
 have := Nat.add_div (a := x) (b := y) (pos_pow k)
 split at this <;> omega
theorem carry_zero (x y : Nat) : carry x y 0 = 0 := by simp [carry]
theorem add_step (x y k : Nat) : (dig x k + carry x y k + dig y k) % 4294967296 = dig (x + y) k ∧ (dig x k + carry x y k + dig y k) / 4294967296 = carry x y (k + 1) := by
 have h0 := carry_div x y k
 have h1 := carry_div x y (k + 1)
 simp only [Nat.pow_succ, ← Nat.div_div_eq_div_mul] at h1
 unfold dig
 omega
/-- The borrow in front of place k. -/
def borrow (x y k : Nat) : Nat := x / 4294967296 ^ k - y / 4294967296 ^ k - (x - y) / 4294967296 ^ k
theorem borrow_div {x y : Nat} (h : y ≤ x) (k : Nat) : x / 4294967296 ^ k = y / 4294967296 ^ k + (x - y) / 4294967296 ^ k + borrow x y k ∧ borrow x y k ≤ 1 := by
 have h1 := carry_div y (x - y) k
 rw [show y + (x - y) = x by omega] at h1
 unfold borrow
 omega
theorem borrow_zero {x y : Nat} (h : y ≤ x) : borrow x y 0 = 0 := by simp [borrow]
theorem sub_step {x y : Nat} (h : y ≤ x) (k : Nat) : (if dig x k < borrow x y k + dig y k then dig x k + 4294967296 - borrow x y k - dig y k else dig x k - borrow x y k - dig y k) = dig (x - y) k ∧
  (if dig x k < borrow x y k + dig y k then 1 else 0) = borrow x y (k + 1) := by
 have h0 := borrow_div h k
 have h1 := borrow_div h (k + 1)
 simp only [Nat.pow_succ, ← Nat.div_div_eq_div_mul] at h1
 unfold dig
 split <;> omega
end Go.Proofs.YthpgeeaccmgbkaaGreat

/- The contract of integer.digits: the digits to the base 2^32 of the absolute value; nothing that was there is changed. -/
namespace Go.Proofs.YthpgeeaccmgbkaaGreat
open Go.RowKit

theorem infoU32 : (Tryz.prog.info? 88).map (fun i => (i.zero, i.size, i.bytes)) = some (some (.int .u32 0), 1, 4) := by kernel_rfl

/-- The lowest k of n digits of x have been written, the others are 0. -/
def part (k n x : Nat) : List Value := cs32 (Dn k x) ++ List.replicate (n - k) (.int .u32 0)
theorem part_zero (n x : Nat) : part 0 n x = zrow (.int .u32 0) n := by rw [zrow_one _ _ rfl]; simp [part, Dn, cs32]
theorem part_full (n x : Nat) : part n n x = cs32 (Dn n x) := by simp [part]
theorem part_at {k n x : Nat} (h : k < n) : (part k n x)[k]? = some (.int .u32 0) := by
 have e : (cs32 (Dn k x)).length = k := by simp [cs32, Dn_length]
 rw [part, List.getElem?_append_right (by omega), e, Nat.sub_self, List.getElem?_replicate, if_pos (by omega)]
theorem Dn_succ (k x : Nat) : Dn (k + 1) x = Dn k x ++ [dig x k] := by
 symm
 apply eq_Dn (by simp [Dn_length])
 intro i hi
 rw [List.getElem?_append]
 split
 ·
  rename_i h; rw [Dn_length] at h; rw [Dn_get _ _ _ h]
 ·
  rename_i h; rw [Dn_length] at h ⊢
  have : i = k := by omega
  subst this; simp
theorem part_set {k n x : Nat} (h : k < n) : (part k n x).set k (.int .u32 (dig x k : Int)) = part (k + 1) n x := by
 have e : (cs32 (Dn k x)).length = k := by simp [cs32, Dn_length]
 rw [part, List.set_append_right _ _ (by omega), e, Nat.sub_self, part, Dn_succ, show n - k = n - (k + 1) + 1 by omega, List.replicate_succ, List.set_cons_zero]
 simp [cs32]
theorem mk32 (n : Nat) (h : n ≤ 1099511627776) (N : Int) (hN : N = (n : Int)) (w : World) : (Instr.makeSlice 91 (.int .i64 N) (.int .i64 N)).run Tryz.prog w = .ok (.slice (some ⟨w.heap.size, 0, none⟩) n n) (w.alloc (.cells (zarr (.int .u32 0) n) 88)) :=
 mk_slice (P := Tryz.prog) 91 88 (.int .u32 0) 1 4 Tryz.underlying91 infoU32 rfl .i64 .i64 n n (Nat.le_refl _) (by omega) (by omega) N N hN hN w
/-- e returns a slice with the digits of x. -/
def RetNat (w : World) (x : Nat) (e : Ending) (w' : World) : Prop :=
 Below w.heap.size w w' ∧ ∃ v, e = .returned v ∧ Row w' v (dg x).length (cs32 (dg x))

set_option maxRecDepth 100000 in
set_option maxHeartbeats 800000 in
theorem digits_any (ng : Bool) (s : ByteArray) (w : World) (hs : s.size ≤ 1099511627776) :
  Calls Tryz.prog 81 #[.agg #[.bool ng, .string s]] w (RetNat w (bval s.data.toList)) := by
 have hmk := run_make_row' (P := Tryz.prog) 91 88 (.int .u32 0) 4 Tryz.underlying91 infoU32 rfl .i64 .i64 ((s.size + 3) / 4) (by omega) (by omega)
 rw [show (((s.size + 3) / 4 : Nat) : Int) = ((s.size : Int) + 3) / 4 by omega, madeOne] at hmk
 go_enter Tryz.func81, Tryz.ntmps81
 go_wp2
 clear hmk
 go_loopw [4, 5, 15] (fun _ _ i wr => ∃ k : Nat, k ≤ s.size ∧ i = .int .i64 k ∧ Below w.heap.size w wr ∧ wr.cell? ⟨w.heap.size, 1, none⟩ = some (.string s) ∧ Blk wr (w.heap.size + 1) 88 (cs32 (Dn ((s.size + 3) / 4) (bval (s.data.toList.drop (s.size - k)))))) (fun _ _ i _ => s.size - (intOf i).toNat)
 case atStart =>
  refine ⟨0, Nat.zero_le _, rfl, ?_, ?_, ?_⟩
  ·
   exact ((Below.refl _ _).alloc (Nat.le_refl _) _).alloc (by simp) _
  ·
   exact ((Blk.new w 28 [.bool ng, .string s]).alloc _).cell rfl
  ·
   have h := Blk.new (w.alloc (.cells #[.bool ng, .string s] 28)) 88 (List.replicate ((s.size + 3) / 4) (Value.int .u32 0))
   rw [World.size_alloc] at h
   refine Blk.congr (by simpa using h) ?_
   rw [List.drop_of_length_le (by simp), bval, Dn_zero, cs32, List.map_replicate]; rfl
 case round =>
  obtain ⟨k, hk, rfl, hbel, hbox, hrow⟩ := hrel
  have HR := Lib.hid hrow; clear hrow
  have HB := Lib.hid hbel; clear hbel
  by_cases hlt : k < s.size
  ·
   have hdl : (Dn ((s.size + 3) / 4) (bval (s.data.toList.drop (s.size - k))))[k / 4]? = some (dig (bval (s.data.toList.drop (s.size - k))) (k / 4)) := Dn_get _ _ _ (by omega)
   obtain ⟨d, hd⟩ : ∃ d, d = dig (bval (s.data.toList.drop (s.size - k))) (k / 4) := ⟨_, rfl⟩
   have hdlt : d < 4294967296 := by rw [hd]; exact dig_lt _ _
   rw [← hd] at hdl
   have hcell : wr.cell? ⟨w.heap.size + 1, k / 4, none⟩ = some (.int .u32 (d : Int)) := HR.out.cell (cs32_get hdl)
   have hfz : wr.frozen? ⟨w.heap.size + 1, k / 4, none⟩ = false := HR.out.frozen _
   have HD := Lib.hid hd; clear hd hdl
   have h4 : k / 4 < (s.size + 3) / 4 := by omega
   go_wp2
   go_region
   go_wp2
   go_roundw
   case rel =>
    have hb1 := bval_drop s.data.toList k (by simpa using hlt)
    have hb2 := bval_drop_lt s.data.toList k
    simp only [bytes_size] at hb1 hb2
    have hbi := byte_in (c := (s.data.toList[s.size - 1 - k]'(by simp; omega)).toNat) hb2 (UInt8.toNat_lt _)
    rw [← hb1, ← HD.out] at hbi
    refine ⟨k + 1, by omega, by go_num, ?_, ?_, ?_⟩
    ·
     exact ((HB.out.setCell (p := ⟨w.heap.size + 1, k / 4, none⟩) (by simp) _)).drew
    ·
     exact (World.cell?_setCell_other _ _ _ _ (by simp)).trans hbox
    ·
     refine (((HR.out.set (k / 4) _)).drew).congr ?_
     rw [or_cell hdlt, ← dig_set hbi.1 hbi.2, cs32, cs32, List.map_set]
     rfl
   case measure => simp [intOf]; omega
  ·
   have hkn : s.size - k = 0 := by omega
   have hr : Row wr (.slice (some ⟨w.heap.size + 1, 0, none⟩) ((s.size + 3) / 4) ((s.size + 3) / 4)) (Dn ((s.size + 3) / 4) (bval s.data.toList)).length (cs32 (Dn ((s.size + 3) / 4) (bval s.data.toList))) := by
    have h := HR.out
    rw [hkn, List.drop_zero] at h
    have h2 := Row.ofBlk h (m := (s.size + 3) / 4) (cap := (s.size + 3) / 4) (Nat.le_refl _) (by unfold maxLen; omega) (cs32 (Dn ((s.size + 3) / 4) (bval s.data.toList))).length
    rw [List.take_length] at h2
    rw [Dn_length]; exact h2
   have HR2 := Lib.hid hr; clear hr
   go_wp2_with (go_at_call 105; refine (trim_any _ _ _ HR2.out).mono ?_; rintro e w' ⟨rfl, v', rfl, hv'⟩)
   go_ret
   refine ⟨HB.out, v', rfl, ?_⟩
   have hlt2 : bval s.data.toList < 4294967296 ^ ((s.size + 3) / 4) := by
    have h1 := bval_lt s.data.toList
    rw [bytes_size, pow256] at h1
    have h3 : 4294967296 ^ (s.size / 4) * 256 ^ (s.size % 4) ≤ 4294967296 ^ ((s.size + 3) / 4) := by
     by_cases h0 : s.size % 4 = 0
     ·
      rw [h0, show (s.size + 3) / 4 = s.size / 4 by omega]; simp
     ·
      rw [show (s.size + 3) / 4 = s.size / 4 + 1 by omega, Nat.pow_succ]
      have h5 := pow256_lt (r := s.size % 4 - 1) (by omega)
      rw [show s.size % 4 - 1 + 1 = s.size % 4 by omega] at h5
      exact Nat.mul_le_mul_left _ h5
    omega
   rwa [tz_Dn hlt2] at hv'
end Go.Proofs.YthpgeeaccmgbkaaGreat

/- Strings of the same bytes. -/
namespace Go.Proofs.YthpgeeaccmgbkaaGreat
open Go.RowKit

theorem str_ext {s t : ByteArray} (h : s.data.toList = t.data.toList) : s = t := by
 cases s; cases t; simp at h; rw [h]
end Go.Proofs.YthpgeeaccmgbkaaGreat

/- Plain arithmetic without the program: digits to the base 256, the most significant one first, as the reference implementation computes with them. -/
namespace Go.Proofs.YthpgeeaccmgbkaaGreat

theorem pos256 (k : Nat) : 0 < 256 ^ k := Nat.pow_pos (by decide)
/-- Bytes without zeros ahead are those of their value. -/
theorem bb_bval_aux (l : List UInt8) : ∀ n, l.length = n → (∀ c t, l = c :: t → c ≠ 0) → bb (bval l) = l := by
 intro n
 induction n generalizing l with
 | zero =>
  intro h _
  have : l = [] := List.length_eq_zero_iff.1 h
  subst this; simp [bval, bb_zero]
 | succ n ih =>
  intro h hh
  obtain ⟨k, c, rfl⟩ : ∃ k c, l = k ++ [c] := by
   have hne : l ≠ [] := by intro e; subst e; simp at h
   exact ⟨l.dropLast, l.getLast hne, (List.dropLast_concat_getLast hne).symm⟩
  have hk : bb (bval k) = k := ih k (by simpa using h) (by
   intro c' t e
   subst e
   exact hh c' (t ++ [c]) rfl)
  have hc : c.toNat < 256 := UInt8.toNat_lt c
  rw [bval_snoc, bb_step _ _ hc, hk]
  ·
   simp
  ·
   cases k with
   | nil =>
    right
    have := hh c [] rfl
    rcases Nat.eq_zero_or_pos c.toNat with e | e
    ·
     exact absurd (by rw [← UInt8.ofNat_toNat (x := c), e]; rfl) this
    ·
     exact e
   | cons c' t =>
    left
    apply bb_pos_of
    rw [hk]; simp
theorem bb_bval {l : List UInt8} (h : ∀ c t, l = c :: t → c ≠ 0) : bb (bval l) = l := bb_bval_aux l _ rfl h
theorem bval_zero (t : List UInt8) : bval (0 :: t) = bval t := by simp [bval]
/-- The byte at place k, from the end. -/
def byt (x k : Nat) : Nat := x / 256 ^ k % 256
theorem byt_lt (x k : Nat) : byt x k < 256 := Nat.mod_lt _ (by decide)
theorem byt_get (l : List UInt8) (k : Nat) (h : k < l.length) : (l[l.length - 1 - k]'(by omega)).toNat = byt (bval l) k := by
 induction l with
 | nil => simp at h
 | cons c t ih =>
  simp only [List.length_cons] at h ⊢
  unfold byt
  by_cases e : k = t.length
  ·
   subst e
   have h1 := bval_lt t
   simp only [Nat.add_sub_cancel, Nat.sub_self, List.getElem_cons_zero, bval]
   rw [Nat.mul_comm, Nat.mul_add_div (pos256 _), Nat.div_eq_of_lt h1]
   have := UInt8.toNat_lt c
   omega
  ·
   have h2 : t.length + 1 - 1 - k = (t.length - 1 - k) + 1 := by omega
   have h3 := ih (by omega)
   simp only [h2, List.getElem_cons_succ]
   rw [h3, byt, bval]
   have e1 : 256 ^ t.length = 256 ^ k * (256 * 256 ^ (t.length - k - 1)) := by
    rw [← Nat.pow_succ', ← Nat.pow_add]; congr 1; omega
   rw [e1, Nat.mul_left_comm, Nat.mul_add_div (pos256 k), Nat.mul_left_comm, Nat.mul_add_mod]
theorem byt_beyond (l : List UInt8) (k : Nat) (h : l.length ≤ k) : byt (bval l) k = 0 := by
 have h1 := bval_lt l
 have h2 : 256 ^ l.length ≤ 256 ^ k := Nat.pow_le_pow_right (by decide) h
 rw [byt, Nat.div_eq_of_lt (by omega)]
/-- The lowest k bytes, the most significant one first. -/
def be : Nat → Nat → List UInt8
 | 0, _ => []
 | k + 1, x => UInt8.ofNat (byt x k) :: be k x
theorem be_length (k x : Nat) : (be k x).length = k := by induction k with
 | zero => rfl
 | succ k ih => simp [be, ih]
theorem bval_be (k x : Nat) : bval (be k x) = x % 256 ^ k := by
 induction k with
 | zero => simp [be, bval, Nat.mod_one]
 | succ k ih =>
  rw [be, bval, be_length, ih]
  have h1 : (UInt8.ofNat (byt x k)).toNat = byt x k := by
   have := byt_lt x k
   simp; omega
  rw [h1, Nat.pow_succ, Nat.mod_mul]
  unfold byt
  rw [Nat.mul_comm (256 ^ k), Nat.add_comm]
theorem be_of_lt {k x : Nat} (h : x < 256 ^ k) : bval (be k x) = x := by rw [bval_be, Nat.mod_eq_of_lt h]
theorem be_bb {k x : Nat} (h : x < 256 ^ (k + 1)) (h2 : 0 < x / 256 ^ k) : be (k + 1) x = bb x := by
 have h1 := be_of_lt h
 have h3 : bb (bval (be (k + 1) x)) = be (k + 1) x := by
  apply bb_bval
  intro c t e
  rw [be, List.cons.injEq] at e
  intro hc
  rw [← e.1] at hc
  have h4 : (UInt8.ofNat (byt x k)).toNat = 0 := by rw [hc]; rfl
  have h5 : (UInt8.ofNat (byt x k)).toNat = byt x k := by
   have := byt_lt x k
   simp; omega
  rw [h5, byt, Nat.mod_eq_of_lt ((Nat.div_lt_iff_lt_mul (pos256 k)).2 (by rw [Nat.pow_succ, Nat.mul_comm] at h; exact h))] at h4
  omega
 rw [← h3, h1]

/-- The carry in front of place k. -/
def carry8 (x y k : Nat) : Nat := (x + y) / 256 ^ k - x / 256 ^ k - y / 256 ^ k
theorem carry8_div (x y k : Nat) : (x + y) / 256 ^ k = x / 256 ^ k + y / 256 ^ k + carry8 x y k ∧ carry8 x y k ≤ 1 := by
 unfold carry8
 have := Nat.add_div (a := x) (b := y) (pos256 k)
 split at this <;> omega
theorem carry8_zero (x y : Nat) : carry8 x y 0 = 0 := by simp [carry8]
theorem add_step8 (x y k : Nat) : (carry8 x y k + byt x k + byt y k) % 256 = byt (x + y) k ∧ (carry8 x y k + byt x k + byt y k) / 256 = carry8 x y (k + 1) := by
 have h0 := carry8_div x y k
 have h1 := carry8_div x y (k + 1)
 simp only [Nat.pow_succ, ← Nat.div_div_eq_div_mul] at h1
 unfold byt
 omega
/-- The borrow in front of place k. -/
def borrow8 (x y k : Nat) : Nat := x / 256 ^ k - y / 256 ^ k - (x - y) / 256 ^ k
theorem borrow8_div {x y : Nat} (h : y ≤ x) (k : Nat) : x / 256 ^ k = y / 256 ^ k + (x - y) / 256 ^ k + borrow8 x y k ∧ borrow8 x y k ≤ 1 := by
 have h1 := carry8_div y (x - y) k
 rw [show y + (x - y) = x by omega] at h1
 unfold borrow8
 omega
theorem borrow8_zero {x y : Nat} : borrow8 x y 0 = 0 ∨ x < y := by simp [borrow8]
theorem sub_step8 {x y : Nat} (h : y ≤ x) (k : Nat) : (if byt x k < borrow8 x y k + byt y k then byt x k + 256 - borrow8 x y k - byt y k else byt x k - borrow8 x y k - byt y k) = byt (x - y) k ∧
  (if byt x k < borrow8 x y k + byt y k then 1 else 0) = borrow8 x y (k + 1) := by
 have h0 := borrow8_div h k
 have h1 := borrow8_div h (k + 1)
 simp only [Nat.pow_succ, ← Nat.div_div_eq_div_mul] at h1
 unfold byt
 split <;> omega
theorem bb_len_lt {x y : Nat} (h : (bb x).length < (bb y).length) : x < y := by
 have h1 := lt_pow_bb x
 rcases Nat.lt_or_ge x y with h2 | h2
 ·
  exact h2
 ·
  have := bb_length_le (x := y) (m := (bb x).length) (by omega)
  omega
/-- Of two words of the same length the one that is less as text is the lesser number. -/
theorem less_bval : ∀ (a b : List UInt8), a.length = b.length → (Op.bytesLess a b = decide (bval a < bval b))
 | [], [], _ => by simp [Op.bytesLess]
 | [], _ :: _, h => by simp at h
 | _ :: _, [], h => by simp at h
 | c :: x, d :: y, h =>
  by
  have hl : x.length = y.length := by simpa using h
  have ih := less_bval x y hl
  have h1 := bval_lt x
  have h2 := bval_lt y
  rw [Op.bytesLess, ih, bval, bval, hl]
  rw [hl] at h1
  rcases Nat.lt_trichotomy c.toNat d.toNat with hc | hc | hc
  ·
   have e1 : c < d := UInt8.lt_iff_toNat_lt.2 hc
   have : (c.toNat + 1) * 256 ^ y.length ≤ d.toNat * 256 ^ y.length := Nat.mul_le_mul_right _ hc
   rw [Nat.add_mul] at this
   simp only [e1, decide_true, Bool.true_or]
   symm; rw [decide_eq_true_iff]; omega
  ·
   have e1 : c = d := UInt8.toNat_inj.1 hc
   subst e1
   simp
  ·
   have e1 : ¬ c < d := fun e => by have := UInt8.lt_iff_toNat_lt.1 e; omega
   have e2 : (c == d) = false := by
    rw [beq_eq_false_iff_ne]; intro e; subst e; omega
   have : (d.toNat + 1) * 256 ^ y.length ≤ c.toNat * 256 ^ y.length := Nat.mul_le_mul_right _ hc
   rw [Nat.add_mul] at this
   simp only [e1, e2, decide_false, Bool.false_and, Bool.or_false]
   symm; rw [decide_eq_false_iff_not]; omega
end Go.Proofs.YthpgeeaccmgbkaaGreat

/- Plain arithmetic of multiplication, digit by digit. -/
namespace Go.Proofs.YthpgeeaccmgbkaaGreat

/-- The places below j hold z's digits, the others p's. -/
def mixD (m j z p : Nat) : List Nat := (List.range m).map fun i => if i < j then dig z i else dig p i
theorem mixD_length (m j z p : Nat) : (mixD m j z p).length = m := by simp [mixD]
theorem mixD_get {m j z p i : Nat} (h : i < m) : (mixD m j z p)[i]? = some (if i < j then dig z i else dig p i) := by simp [mixD, h]
theorem mixD_same (m j z : Nat) : mixD m j z z = Dn m z := eq_Dn (mixD_length _ _ _ _) fun i hi => by rw [mixD_get hi]; split <;> rfl
theorem mixD_set {m j z z' p new : Nat} (h : j < m) (h1 : new = dig z' j) (h2 : ∀ i, i < j → dig z' i = dig z i) : (mixD m j z p).set j new = mixD m (j + 1) z' p := by
 apply List.ext_getElem?
 intro i
 by_cases hi : i < m
 ·
  rw [mixD_get hi]
  by_cases e : i = j
  ·
   subst e; rw [List.getElem?_set_self (by rw [mixD_length]; exact hi), if_pos (by omega), h1]
  ·
   rw [List.getElem?_set_ne (fun h => e h.symm), mixD_get hi]
   by_cases hlt : i < j
   ·
    rw [if_pos hlt, if_pos (by omega), h2 i hlt]
   ·
    rw [if_neg hlt, if_neg (by omega)]
 ·
  rw [List.getElem?_eq_none (by rw [List.length_set, mixD_length]; omega), List.getElem?_eq_none (by rw [mixD_length]; omega)]
/-- One place more. -/
theorem mul_step {Z P c de q : Nat} (h : Z / 4294967296 ^ q = P / 4294967296 ^ q + c) :
  (de + dig P q + c) % 4294967296 = dig (Z + de * 4294967296 ^ q) q ∧ (Z + de * 4294967296 ^ q) / 4294967296 ^ (q + 1) = P / 4294967296 ^ (q + 1) + (de + dig P q + c) / 4294967296 ∧
  ∀ i, i < q → dig (Z + de * 4294967296 ^ q) i = dig Z i := by
 have hp := pos_pow q
 have h1 : (Z + de * 4294967296 ^ q) / 4294967296 ^ q = P / 4294967296 ^ q + c + de := by rw [Nat.add_mul_div_right _ _ hp, h]
 refine ⟨?_, ?_, ?_⟩
 ·
  unfold dig; rw [h1]; omega
 ·
  rw [Nat.pow_succ, ← Nat.div_div_eq_div_mul, ← Nat.div_div_eq_div_mul, h1]; unfold dig; omega
 ·
  intro i hi
  unfold dig
  have e : 4294967296 ^ q = 4294967296 ^ i * (4294967296 * 4294967296 ^ (q - i - 1)) := by
   rw [← Nat.pow_succ', ← Nat.pow_add]; congr 1; omega
  rw [e, Nat.mul_left_comm de, Nat.add_mul_div_left _ _ (pos_pow i), Nat.mul_left_comm de, Nat.add_mul_mod_self_left]
theorem mod_succ (x i : Nat) : x % 4294967296 ^ (i + 1) = x % 4294967296 ^ i + dig x i * 4294967296 ^ i := by
 unfold dig
 rw [Nat.pow_succ, Nat.mod_mul, Nat.mul_comm (4294967296 ^ i)]
theorem de_lt {d e : Nat} (hd : d < 4294967296) (he : e < 4294967296) : d * e ≤ 18446744065119617025 := Nat.mul_le_mul (show d ≤ 4294967295 by omega) (show e ≤ 4294967295 by omega)
/-- What has been multiplied when i places of x are done, and k places of y beside the place i. -/
def mulZ (x y i k : Nat) : Nat := (x % 4294967296 ^ i) * y + dig x i * (y % 4294967296 ^ k) * 4294967296 ^ i
theorem mulZ_zero (x y i : Nat) : mulZ x y i 0 = (x % 4294967296 ^ i) * y := by simp [mulZ, Nat.mod_one]
theorem mulZ_succ (x y i k : Nat) : mulZ x y i (k + 1) = mulZ x y i k + (dig x i * dig y k) * 4294967296 ^ (i + k) := by
 unfold mulZ
 rw [mod_succ y k, Nat.mul_add, Nat.add_mul, Nat.add_assoc, Nat.pow_add, Nat.mul_assoc (dig x i) (dig y k)]
 congr 2
 rw [Nat.mul_comm (4294967296 ^ i)]
 simp only [Nat.mul_assoc]
theorem mulZ_full (x y i n : Nat) (h : y < 4294967296 ^ n) : mulZ x y i n = (x % 4294967296 ^ (i + 1)) * y := by
 unfold mulZ
 rw [Nat.mod_eq_of_lt h, mod_succ, Nat.add_mul]
 congr 1
 rw [Nat.mul_assoc, Nat.mul_assoc, Nat.mul_comm y]
theorem mulP_lt (x y i n : Nat) (h : y < 4294967296 ^ n) : (x % 4294967296 ^ i) * y < 4294967296 ^ (i + n) := by
 rw [Nat.pow_add]
 have h1 : x % 4294967296 ^ i < 4294967296 ^ i := Nat.mod_lt _ (pos_pow i)
 exact Nat.mul_lt_mul'' h1 h
/-- The last place of a round. -/
theorem mul_last {x y i n c : Nat} (h : y < 4294967296 ^ n) (hz : mulZ x y i n / 4294967296 ^ (i + n) = (x % 4294967296 ^ i) * y / 4294967296 ^ (i + n) + c) (hc : c < 4294967296) :
  c = dig ((x % 4294967296 ^ (i + 1)) * y) (i + n) ∧ ∀ j, i + n < j → dig ((x % 4294967296 ^ (i + 1)) * y) j = 0 := by
 rw [Nat.div_eq_of_lt (mulP_lt x y i n h), Nat.zero_add, mulZ_full _ _ _ _ h] at hz
 constructor
 ·
  unfold dig; rw [hz, Nat.mod_eq_of_lt hc]
 ·
  intro j hj
  have h1 := mulP_lt x y (i + 1) n h
  have h2 : 4294967296 ^ (i + 1 + n) ≤ 4294967296 ^ j := Nat.pow_le_pow_right (by decide) (by omega)
  unfold dig
  rw [Nat.div_eq_of_lt (by omega)]
theorem mul_last_set {m x y i n c : Nat} (hm : i + n < m) (h : y < 4294967296 ^ n) (hz : mulZ x y i n / 4294967296 ^ (i + n) = (x % 4294967296 ^ i) * y / 4294967296 ^ (i + n) + c) (hc : c < 4294967296) :
  (mixD m (i + n) (mulZ x y i n) ((x % 4294967296 ^ i) * y)).set (i + n) c = Dn m ((x % 4294967296 ^ (i + 1)) * y) := by
 obtain ⟨h1, h2⟩ := mul_last h hz hc
 rw [mixD_set (z' := (x % 4294967296 ^ (i + 1)) * y) hm h1 (fun j _ => by rw [mulZ_full _ _ _ _ h])]
 refine eq_Dn (mixD_length _ _ _ _) fun j hj => ?_
 rw [mixD_get hj]
 split
 ·
  rfl
 ·
  rename_i hn
  rw [h2 j (by omega)]
  have h1 := mulP_lt x y i n h
  have h3 : 4294967296 ^ (i + n) ≤ 4294967296 ^ j := Nat.pow_le_pow_right (by decide) (by omega)
  unfold dig
  rw [Nat.div_eq_of_lt (by omega)]
theorem dg_mul_length (x y : Nat) : (dg (x * y)).length ≤ (dg x).length + (dg y).length := by
 refine dg_length_le ?_
 rw [Nat.pow_add]
 exact Nat.mul_lt_mul'' (lt_pow_dg x) (lt_pow_dg y)
theorem zA {α : Type} (l : List α) (i : Nat) (a : α) : l.toArray.setIfInBounds i a = (l.set i a).toArray := by simp
theorem zB {α : Type} (x : α) (l : List α) (b : α) : (x :: l).set 0 b = b :: l := rfl
theorem zC {α : Type} (x : α) (l : List α) (n : Nat) (b : α) : (x :: l).set (n + 1) b = x :: l.set n b := rfl
theorem zT {P : Program} {md : Region.Mode} {ops : Array Oper} {Q : Exit → Act → World → Prop} {S : World → Prop} {fuel : Nat} {listed : Array Bool} {a : Act} {w : World} (i : Nat) {oi : Oper} {v : Value} (hS : S w := by assumption)
    (hi : ops[i]? = some oi := by exact rfl) (hs : Region.noSelect ops = true := by kernel_rfl) (hf : Region.free md ops listed i = true := by kernel_rfl) (hr : (Region.ready md ops listed).contains i = true := by kernel_rfl)
    (hQ : ∀ c a w, Q (.panic c) (a.put oi.dst v) w → Q (.panic c) a w := by exact fun _ _ _ h => h) (hg : Region.wanted oi (yielded ops a.tmps) = true := by kernel_rfl)
    (y : ∀ wS, S wS → (execOp a.eval oi).run P wS = .ok (.value v) wS := by (intro wS hSw; (try dsimp only at hSw); go_simp; (try with_reducible rfl))) (h : wpAnyH P md ops Q S fuel (listed.setIfInBounds i true) (a.put oi.dst v) w) : wpAnyH P md ops Q S (fuel + 1) listed a w :=
  wpAnyH_take hi hs hf hr hQ (Or.inl ⟨hg, y⟩) hS h
theorem zR {P : Program} {md : Region.Mode} {ops : Array Oper} {Q : Exit → Act → World → Prop} {S : World → Prop} {fuel : Nat} {listed : Array Bool} {a : Act} {w : World} (i : Nat) {o : Oper} (hr : Region.ready md ops listed = [i] := by kernel_rfl) (ho : ops[i]? = some o := by exact rfl)
    (h : ∀ K' : Act → World → Prop, Shut (∀ a w, S w → (S w → wpAnyH P md ops Q S fuel (listed.setIfInBounds i true) a w) → K' a w) → if Region.wanted o (yielded ops a.tmps) = true then Oper.wp P o a w K' Q else K' (a.put o.dst undef) w) :
    wpAnyH P md ops Q S (fuel + 1) listed a w := wpAnyH_ready hr (by simp) (AllReadyH.cons ho h AllReadyH.nil)
end Go.Proofs.YthpgeeaccmgbkaaGreat

