/- Contracts and plain laws of several functions, one after the other: Base, RowA, StuA, StrE. -/
import Derived.Deep.RegionHeld3
import Derived.WalkKit
import Derived.WalkSpells
import Derived.WalkLawsBesides
import Derived.Lib.Hide
import Derived.RegionTactic
import Derived.BigRegion
import Derived.Deep.OwnRows
import Derived.Laws.IdiomStrings
import Derived.Laws.BytesString
import Derived.Lib.SmallJoins
import Derived.Deep.Slices
import Derived.Deep.Strs
import Derived.Carry
import Derived.OpenShut
import Derived.Test.YtjpalbonclgflaaProg
/- General lemmas without the program: blocks of the call's own, slices that are read, small facts on bytes and endings. -/
namespace Go.Proofs.Ytjpalbonclgflaa
open Go.RowKit Go.Deep

def Blk (w : World) (b : Nat) (t : TypeId) (xs : List Value) : Prop := w.heap[b]? = some (.cells xs.toArray t (0, 0))

namespace Blk
variable {w w' : World} {b : Nat} {t : TypeId} {xs : List Value}
theorem lt (h : Blk w b t xs) : b < w.heap.size := (Array.getElem?_eq_some_iff.1 h).1
theorem cell (h : Blk w b t xs) {j : Nat} {u : Value} (hu : xs[j]? = some u) : w.cell? ⟨b, j, none⟩ = some u := by
  unfold Blk at h
  simp [World.cell?, h, hu]
theorem frozen (h : Blk w b t xs) (j : Nat) : w.frozen? ⟨b, j, none⟩ = false := by
  unfold Blk at h
  simp [World.frozen?, h]
theorem of_block (h : Blk w b t xs) (e : w'.heap[b]? = w.heap[b]?) : Blk w' b t xs := e.trans h
theorem set (h : Blk w b t xs) (j : Nat) (u : Value) : Blk (w.setCell ⟨b, j, none⟩ u) b t (xs.set j u) := by
  unfold Blk at h ⊢
  simp [World.setCell, Array.getElem?_modify, h]
theorem setOther (h : Blk w b t xs) {a : Addr} (ha : a.block ≠ b) (u : Value) : Blk (w.setCell a u) b t xs := h.of_block (Below.heap_setCell _ _ _ _ (fun e => ha e.symm))
theorem alloc (h : Blk w b t xs) (o : Obj) : Blk (w.alloc o) b t xs := h.of_block (Below.heap_alloc _ _ _ h.lt)
theorem drew (h : Blk w b t xs) : Blk w.drew b t xs := h
theorem below {B : Nat} (h : Blk w b t xs) (k : Below B w w') (hb : b < B) : Blk w' b t xs := h.of_block (k.block b hb)
theorem new (w : World) (t : TypeId) (xs : List Value) : Blk (w.alloc (.cells xs.toArray t (0, 0))) w.heap.size t xs :=
  heap_alloc_new w _
theorem congr {ys : List Value} (h : Blk w b t xs) (e : xs = ys) : Blk w b t ys := e ▸ h
end Blk

def Row (w : World) (v : Value) (n : Nat) (xs : List Value) : Prop :=
  (v = .slice none 0 0 ∧ n = 0 ∧ xs = []) ∨
  ∃ b off cap, v = .slice (some ⟨b, off, none⟩) n cap ∧ n ≤ cap ∧ cap ≤ maxLen ∧ b < w.heap.size ∧ ∀ j u, xs[j]? = some u → w.cell? ⟨b, off + j, none⟩ = some u

namespace Row
variable {w w' : World} {v : Value} {n : Nat} {xs : List Value}
theorem nil (w : World) : Row w (.slice none 0 0) 0 [] := .inl ⟨rfl, rfl, rfl⟩
theorem below {B : Nat} (h : Row w v n xs) (k : Below B w w') (hB : w.heap.size ≤ B) : Row w' v n xs := by
  rcases h with h | ⟨b, off, cap, hv, h1, h2, h3, h4⟩
  · exact .inl h
  · exact .inr ⟨b, off, cap, hv, h1, h2, by have := k.size; omega, fun j u hu => (k.cell (p := ⟨b, off + j, none⟩) (by show b < B; omega)).trans (h4 j u hu)⟩
theorem ofBlk {b : Nat} {t : TypeId} (h : Blk w b t xs) {m cap : Nat} (h1 : m ≤ cap) (h2 : cap ≤ maxLen) (k : Nat) : Row w (.slice (some ⟨b, 0, none⟩) m cap) m (xs.take k) :=
  .inr ⟨b, 0, cap, rfl, h1, h2, h.lt, fun j u hu => by
    rw [Nat.zero_add]; apply h.cell
    rw [List.getElem?_take] at hu
    split at hu
    · exact hu
    · cases hu⟩
theorem slice (h : Row w v n xs) : ∃ a cap, v = .slice a n cap ∧ n ≤ 9223372036854775807 := by
  rcases h with ⟨hv, hn, hx⟩ | ⟨b, off, cap, hv, h1, h2, h3, h4⟩
  · exact ⟨_, _, by rw [hn]; exact hv, by omega⟩
  · unfold maxLen at h2; exact ⟨_, _, hv, by omega⟩
theorem at_ {a : Option Addr} {cap : Nat} (h : Row w (.slice a n cap) n xs) (hn : 0 < n) : ∃ b off, a = some ⟨b, off, none⟩ ∧ b < w.heap.size ∧ ∀ j u, xs[j]? = some u → w.cell? ⟨b, off + j, none⟩ = some u := by
  rcases h with ⟨hv, hn', hx⟩ | ⟨b, off, cap, hv, h1, h2, h3, h4⟩
  · omega
  · simp only [Value.slice.injEq] at hv
    exact ⟨b, off, hv.1, h3, h4⟩
theorem take (h : Row w v n xs) (k : Nat) : Row w v n (xs.take k) := by
  rcases h with ⟨hv, hn, hx⟩ | ⟨b, off, cap, hv, h1, h2, h3, h4⟩
  · exact .inl ⟨hv, hn, by simp [hx]⟩
  · exact .inr ⟨b, off, cap, hv, h1, h2, h3, fun j u hu => h4 j u (by
      rw [List.getElem?_take] at hu
      split at hu
      · exact hu
      · cases hu)⟩
end Row

theorem Row.drew {w : World} {v : Value} {n : Nat} {xs : List Value} (h : Row w v n xs) : Row w.drew v n xs := h
def Ret (w : World) (v : Value) (e : Ending) (w' : World) : Prop := Below w.heap.size w w' ∧ e = .returned v
theorem bytes_size (s : ByteArray) : s.data.toList.length = s.size := by simp
theorem madeOne (z : Value) (n : Nat) : madeCells #[z] n = (List.replicate n z).toArray := by
  apply Array.ext
  · simp [madeCells]
  · intro i h1 h2; simp [madeCells, Nat.mod_one]


theorem _root_.Go.RowKit.Below.of_alloc {B : Nat} {w w' : World} {o : Obj} (h : Below B (w.alloc o) w') (hB : B ≤ w.heap.size := by first | exact Nat.le_refl _ | simp) : Below B w w' :=
  ((Below.refl B w).alloc hB o).trans h
theorem own_below {w w' : World} {base : Nat} {e : TypeId} {size : Nat} {v : Value} {n : Nat} {xs : List Value} (h : w.ownsRow base e size v n xs) (k : Below w.heap.size w w') : w'.ownsRow base e size v n xs := by
  refine ⟨h.1, ?_⟩
  rcases h.2 with hn | ⟨g, cap, cur, rfl, hb, hg, rest⟩
  · exact .inl hn
  · exact .inr ⟨g, cap, cur, rfl, hb, (k.block g (Array.getElem?_eq_some_iff.1 hg).1).trans hg, rest⟩
theorem own_row {w : World} {base : Nat} {e : TypeId} {size : Nat} {v : Value} {n : Nat} {xs : List Value} (h : w.ownsRow base e size v n xs) : Row w v n xs := by
  have hc := fun g hg => h.cells (g := g) hg
  obtain ⟨hl, h | ⟨g, cap, cur, rfl, hb, hg, h1, h2, h3, h4⟩⟩ := h
  · obtain ⟨rfl, rfl⟩ := h
    exact .inl ⟨rfl, rfl, List.length_eq_zero_iff.1 (by omega)⟩
  · refine .inr ⟨g, 0, cap, rfl, h1, h2, (Array.getElem?_eq_some_iff.1 hg).1, fun j u hu => ?_⟩
    have := hc g rfl j u hu
    unfold Addr.add at this
    split at this
    · rename_i h0; subst h0; exact this
    · exact this
theorem own_slice {w : World} {base : Nat} {e : TypeId} {size : Nat} {v : Value} {n : Nat} {xs : List Value} (h : w.ownsRow base e size v n xs) : ∃ a cap, v = .slice a n cap := by
  obtain ⟨hl, h | ⟨g, cap, cur, rfl, hb, hg, h1, h2, h3, h4⟩⟩ := h
  · obtain ⟨rfl, rfl⟩ := h
    exact ⟨_, _, rfl⟩
  · exact ⟨_, _, rfl⟩
theorem own_lt {w : World} {base : Nat} {e : TypeId} {size : Nat} {v : Value} {n : Nat} {xs : List Value} (h : w.ownsRow base e size v n xs) (hb : base ≤ w.heap.size) : ∀ k, v.ownBlock = some k → base ≤ k := fun k hk => (h.lt k hk).1

theorem app_one {P : Program} (W : World) {ops : Array Oper} {rest : List Oper} {o : Oper} {a : Act} {Q : Exit → Act → World → Prop} (hgd : o.guard = none) (s x : Operand) (t : TypeId)
    (ho : o.op = .call { callee := .builtin .append, args := #[s, x], argTypes := #[t, t] })
    (base : Nat) (e : TypeId) (z : Value) (size bytes : Nat) (ht : P.underlying t = some (.slice e)) (hinfo : (P.info? e).map (fun i => (i.zero, i.size, i.bytes)) = some (some z, size, bytes))
    (hzs : z.cells.size = size) (hsz : 0 < size)
    (v : Value) (n : Nat) (xs : List Value) (hs : a.eval s = v) (hown : W.ownsRow base e size v n xs)
    (news : List Value) (c : Nat) (hx : a.eval x = .slice (some ⟨W.heap.size, 0, none⟩) 1 c) (hl : news.length = size) (h1 : ∀ u ∈ news, u.oneCell' = true)
    (hbytes : (n + 1) * bytes ≤ 140737488355328) (h63 : n < 140737488355328) (hbase : base ≤ W.heap.size)
    (h : ∀ v' w', w'.ownsRow base e size v' (n + 1) (xs ++ news) → W.grownBy w' v.ownBlock → wpList P ops Q rest (a.put o.dst v') w') :
    wpList P ops Q (o :: rest) a (W.alloc (.cells news.toArray e (0, 0))) := by
  obtain ⟨i, hi, hz0, hz1, hz2⟩ := info_parts hinfo
  refine wpList_append_own _ hgd s x t ho base e i z size bytes ht hi hz0 hz1 hz2 hzs hsz v n xs hs (hown.alloc _) ⟨W.heap.size, 0, none⟩ 1 c news hx (by omega) ?_ h1 (by unfold maxLen; omega) hbytes (by simp; omega) ?_
  · intro j u hu
    have hb := Blk.new W e news
    have := hb.cell hu
    unfold Addr.add
    split
    · rename_i h0; subst h0; exact this
    · simpa using this
  · intro v' w' h2 h3 _
    refine h v' w' h2 ⟨h3.os, h3.tape, h3.output, by have := h3.size; simp at this; omega, fun k hk hne => ?_⟩
    rw [h3.block k (by simp; omega) hne, Below.heap_alloc _ _ _ hk]

def zrow (z : Value) (c : Nat) : List Value := (List.replicate c z.cells.toList).flatten
def zarr (z : Value) (c : Nat) : Array Value := (zrow z c).toArray
theorem zrow_length (z : Value) (c : Nat) : (zrow z c).length = c * z.cells.size := by simp [zrow]
theorem zrow_one (z : Value) (c : Nat) (h : z.cells = #[z]) : zrow z c = List.replicate c z := by
  rw [zrow, h]
  induction c with
  | zero => rfl
  | succ c ih => rw [List.replicate_succ, List.flatten_cons, ih, List.replicate_succ]; rfl
theorem flat_get (l : List Value) (c i : Nat) (h : i < c * l.length) : (List.replicate c l).flatten[i]? = l[i % l.length]? := by
  induction c generalizing i with
  | zero => simp at h
  | succ c ih =>
    rw [List.replicate_succ, List.flatten_cons, List.getElem?_append]
    split
    · rename_i h1; rw [Nat.mod_eq_of_lt h1]
    · rename_i h1
      rw [ih _ (by rw [Nat.succ_mul] at h; omega), ← Nat.mod_eq_sub_mod (by omega)]
theorem zarr_eq (z : Value) (c : Nat) : madeCells z.cells (c * z.cells.size) = zarr z c := by
  apply Array.ext
  · simp [madeCells, zarr, zrow_length]
  · intro i h1 h2
    have h1' : i < c * z.cells.toList.length := by simpa [madeCells] using h1
    have h3 : 0 < z.cells.size := by
      rcases Nat.eq_zero_or_pos z.cells.size with h | h
      · simp [h] at h1'
      · exact h
    have h4 : i % z.cells.size < z.cells.size := Nat.mod_lt _ h3
    have h5 := flat_get z.cells.toList c i h1'
    have h6 : (zarr z c)[i]? = z.cells[i % z.cells.size]? := by simpa [zarr, zrow] using h5
    rw [Array.getElem?_eq_getElem h2, Array.getElem?_eq_getElem h4, Option.some.injEq] at h6
    rw [h6]
    simp [madeCells, h4]
theorem Blk.zero (w : World) (t : TypeId) (z : Value) (c : Nat) : Blk (w.alloc (.cells (zarr z c) t)) w.heap.size t (zrow z c) := Blk.new w t (zrow z c)
theorem mk_slice {P : Program} (t e : TypeId) (z : Value) (size bytes : Nat) (ht : P.underlying t = some (.slice e)) (hinfo : (P.info? e).map (fun i => (i.zero, i.size, i.bytes)) = some (some z, size, bytes)) (hz : z.cells.size = size)
    (kl kc : IntKind) (l c : Nat) (hlc : l ≤ c) (hb : bytes * c ≤ 281474976710656) (h63 : c ≤ 9223372036854775807) (L C : Int) (hL : L = (l : Int)) (hC : C = (c : Int)) (w : World) :
    (Instr.makeSlice t (.int kl L) (.int kc C)).run P w = .ok (.slice (some ⟨w.heap.size, 0, none⟩) l c) (w.alloc (.cells (zarr z c) e)) := by
  subst hL hC
  obtain ⟨i, hi, hz0, hz1, hz2⟩ := info_parts hinfo
  have hbi : (i.bytes : Int) * (c : Int) ≤ 281474976710656 := by
    rw [hz2]
    have h : ((bytes * c : Nat) : Int) ≤ 281474976710656 := by omega
    rwa [Int.natCast_mul] at h
  have h := run_make (P := P) w t e i z ht hi hz0 kl kc l c (by omega) (by omega) hbi (by omega)
  simp only [Int.toNat_natCast, hz1, ← hz, zarr_eq] at h
  exact h
theorem own_made (w : World) (base : Nat) (e : TypeId) (z : Value) (c : Nat) (hb : base ≤ w.heap.size) (hm : c ≤ maxLen) : (w.alloc (.cells (zarr z c) e)).ownsRow base e z.cells.size (.slice (some ⟨w.heap.size, 0, none⟩) 0 c) 0 [] :=
  World.ownsRow_made w _ c hb hm (by simp [zarr, zrow_length])
def cb (l : List UInt8) : List Value := l.map fun (c : UInt8) => Value.int .u8 (c.toNat : Int)
theorem cb_length (l : List UInt8) : (cb l).length = l.length := by simp [cb]
theorem cb_append (l k : List UInt8) : cb (l ++ k) = cb l ++ cb k := by simp [cb]
theorem conv_row {P : Program} (w : World) (src dst e : TypeId) (hs : P.underlying src = some (.slice e)) (he : P.underlying e = some (.int .u8)) (hd : P.underlying dst = some .string)
    (a : Option Addr) (cap : Nat) (l : List UInt8) (h : Row w (.slice a l.length cap) l.length (cb l)) :
    (convert src dst (.slice a l.length cap)).run P w = .ok (.string ⟨l.toArray⟩) w := by
  rcases h with ⟨hv, hn, hx⟩ | ⟨b, off, cap', hv, h1, h2, h3, h4⟩
  · have hl : l = [] := List.length_eq_zero_iff.1 hn
    subst hl
    simp only [Value.slice.injEq] at hv
    obtain ⟨rfl, _, rfl⟩ := hv
    rw [run_convert_bytes_string w src dst e none _ _ hs he hd]
    rfl
  · simp only [Value.slice.injEq] at hv
    obtain ⟨rfl, _, rfl⟩ := hv
    refine run_convert_bytes_back w src dst e _ _ l hs he hd fun j hj => ?_
    have := h4 j (.int .u8 (l[j].toNat : Int)) (by simp [cb, hj])
    unfold Addr.add
    split
    · rename_i h0; subst h0; exact this
    · exact this
end Go.Proofs.Ytjpalbonclgflaa

/- Arguments of the rows, opened: a list of pairs of small integers. -/
namespace Go.Proofs.Ytjpalbonclgflaa
open Go.RowKit Go.ChangeShapes Go.WideShapes Go.Deep Go.Joins

def cpr (l : List (Int × Int)) : List Value := l.flatMap fun x => [.int .i8 x.1, .int .i8 x.2]
theorem cpr_length (l : List (Int × Int)) : (cpr l).length = l.length * 2 := by
  induction l with
  | nil => rfl
  | cons y l ih =>
    have e : cpr (y :: l) = [.int .i8 y.1, .int .i8 y.2] ++ cpr l := rfl
    rw [e, List.length_append, ih, List.length_cons]
    simp; omega
theorem cpr_get {l : List (Int × Int)} {k : Nat} {x : Int × Int} (h : l[k]? = some x) : (cpr l)[k * 2]? = some (.int .i8 x.1) ∧ (cpr l)[k * 2 + 1]? = some (.int .i8 x.2) := by
  induction l generalizing k with
  | nil => simp at h
  | cons y l ih =>
    have e : cpr (y :: l) = [.int .i8 y.1, .int .i8 y.2] ++ cpr l := rfl
    cases k with
    | zero => simp at h; subst h; rw [e]; exact ⟨rfl, rfl⟩
    | succ k =>
      have := ih (k := k) (by simpa using h)
      have e1 : (k + 1) * 2 = k * 2 + 2 := by omega
      rw [e, e1]
      exact this
theorem cellsPr : Try.prog.cellsOf 28 = 2 := by kernel_rfl
theorem cellsI8 : Try.prog.cellsOf 23 = 1 := by kernel_rfl
theorem cell_ok_sliceA {P : Program} {w : World} {r : Reach} {base : Nat} {t e : TypeId} {a : Addr} {len cap : Nat} (ht : P.underlying t = some (.slice e)) (h : Cell.okWide P w r base t (.slice (some a) len cap)) : a.spot = none ∧ a.block < w.heap.size := by
  unfold Cell.okWide Cell.ok at h
  rw [ht] at h
  obtain ⟨-, -, -, hsp, row, cells, hsh, -⟩ := h
  refine ⟨hsp, ?_⟩
  rcases Nat.lt_or_ge a.block w.heap.size with h' | h'
  · exact h'
  · simp [World.shape?, Array.getElem?_eq_none h'] at hsh
section
variable {H : Type} {enc : TypeId × Value → H}
set_option maxRecDepth 100000 in
theorem open_pairs {W : World} {base : Nat} {v : Value} {d : DataW H} {p : List MemPlace} (hval : Value.okWide Try.prog W .any base 22 v) (h : DataW.Trod enc Try.prog W 0 (fun _ => true) true 22 v d p) :
    ∃ l : List (Int × Int), (∀ x ∈ l, (-128 ≤ x.1 ∧ x.1 ≤ 127) ∧ -128 ≤ x.2 ∧ x.2 ≤ 127) ∧ Row W v l.length (cpr l) := by
  have hc : Cell.okWide Try.prog W .any base 22 v := by
    unfold Value.okWide at hval
    rw [Try.underlying22] at hval
    exact hval
  obtain ⟨n, h1⟩ := h
  obtain ⟨a0, b0, c0, rfl⟩ : ∃ a b c, v = .slice a b c := by
    unfold Cell.okWide Cell.ok at hc
    rw [Try.underlying22] at hc
    cases v <;> simp at hc <;> exact ⟨_, _, _, rfl⟩
  have h1' : DataW.trod enc Try.prog W 0 (fun _ => true) true n 22 [.slice a0 b0 c0] = some (d, p) := h1
  rcases open_slice Try.underlying22 h1' with ⟨hs, -⟩ | ⟨a, len, cap, m, n', D, Pl, hs, -, hl, hm, hmm, -, hx⟩
  · obtain ⟨rfl, rfl, rfl⟩ : a0 = none ∧ b0 = 0 ∧ c0 = 0 := by simpa using hs
    exact ⟨[], fun x hx => absurd hx (by simp), .inl ⟨rfl, rfl, rfl⟩⟩
  · obtain ⟨rfl, rfl, rfl⟩ : a0 = some a ∧ b0 = len ∧ c0 = cap := by simpa using hs
    simp only [if_true] at hmm
    subst hmm
    obtain ⟨hsp, hlt⟩ := cell_ok_sliceA Try.underlying22 hc
    have key : ∀ i, i < m → ∃ x : Int × Int, ((-128 ≤ x.1 ∧ x.1 ≤ 127) ∧ -128 ≤ x.2 ∧ x.2 ≤ 127) ∧ W.cell? (a.add (i * 2)) = some (.int .i8 x.1) ∧ W.cell? (a.add (i * 2 + 1)) = some (.int .i8 x.2) := by
      intro i hi
      obtain ⟨cs', h3, h2⟩ := hx i hi
      rw [cellsPr] at h3
      obtain ⟨-, hlen, hget⟩ := World.cells?_some h3
      obtain ⟨xs, m1, -, -, -, hl2, hf⟩ := DataW.trod_array Try.underlying28 h2
      match cs', hlen with
      | [u0, u1], _ =>
        have t0 := hf 0 (by decide)
        have t1 := hf 1 (by decide)
        rw [cellsI8] at t0 t1
        obtain ⟨x0, hx0⟩ : ∃ x, xs[0]? = some x := ⟨_, List.getElem?_eq_getElem (by omega)⟩
        obtain ⟨x1, hx1⟩ : ∃ x, xs[1]? = some x := ⟨_, List.getElem?_eq_getElem (by omega)⟩
        rw [hx0] at t0
        rw [hx1] at t1
        obtain ⟨k0, q0, -, w0⟩ := DataW.trod_int Try.underlying23 t0
        obtain ⟨k1, q1, -, w1⟩ := DataW.trod_int Try.underlying23 t1
        have r0 : u0 = .int .i8 k0 := by simpa using q0
        have r1 : u1 = .int .i8 k1 := by simpa using q1
        clear q0 q1
        subst r0 r1
        refine ⟨(k0, k1), ⟨bounds_i8 w0, bounds_i8 w1⟩, ?_, ?_⟩
        · have := hget 0 (by simp)
          rw [add_add] at this
          simpa using this
        · have := hget 1 (by simp)
          rw [add_add] at this
          simpa using this
    obtain ⟨E, hE⟩ := choose_lt key
    refine ⟨(List.range b0).map E, fun x hx => ?_, .inr ⟨a.block, a.off, m, ?_, ?_, ?_, hlt, fun j u hj => ?_⟩⟩
    · obtain ⟨i, hi, rfl⟩ := List.mem_map.1 hx
      exact (hE i (by have := List.mem_range.1 hi; omega)).1
    · rw [List.length_map, List.length_range]
      rcases a with ⟨b, o, sp⟩
      obtain rfl : sp = none := hsp
      rfl
    · rw [List.length_map, List.length_range]; exact hl
    · exact hm
    · have hlc : (cpr ((List.range b0).map E)).length = b0 * 2 := by rw [cpr_length, List.length_map, List.length_range]
      have hjl := (List.getElem?_eq_some_iff.1 hj).1
      rw [hlc] at hjl
      have hi : j / 2 < b0 := by omega
      have h5 := (hE (j / 2) (by omega)).2
      have hg : ((List.range b0).map E)[j / 2]? = some (E (j / 2)) := by simp [hi]
      have h6 := cpr_get hg
      rcases a with ⟨b, o, sp⟩
      obtain rfl : sp = none := hsp
      have e : ∀ k, (Addr.mk b o none).add k = ⟨b, o + k, none⟩ := fun k => by unfold Addr.add; split <;> simp_all
      rw [e, e] at h5
      rcases Nat.mod_two_eq_zero_or_one j with h0 | h0
      · have hj2 : j / 2 * 2 = j := by omega
        rw [hj2] at h5 h6
        have h7 := h6.1
        rw [hj] at h7
        obtain rfl := Option.some.inj h7
        exact h5.1
      · have hj2 : j / 2 * 2 + 1 = j := by omega
        rw [hj2] at h5 h6
        have h7 := h6.2
        rw [hj] at h7
        obtain rfl := Option.some.inj h7
        exact h5.2
end
end Go.Proofs.Ytjpalbonclgflaa

/- Polynomial functions over the rational numbers: bounds, slopes, derivatives: plain. -/
namespace Go.Proofs.Ytjpalbonclgflaa
namespace T
def ab (x : Rat) : Rat := if 0 ≤ x then x else -x
theorem ab_nonneg (x : Rat) : 0 ≤ ab x := by unfold ab; grind
theorem le_ab (x : Rat) : x ≤ ab x := by unfold ab; grind
theorem neg_le_ab (x : Rat) : -x ≤ ab x := by unfold ab; grind
theorem ab_le {x m : Rat} (h1 : x ≤ m) (h2 : -x ≤ m) : ab x ≤ m := by unfold ab; grind
theorem ab_add (x y : Rat) : ab (x + y) ≤ ab x + ab y := by unfold ab; grind
theorem ab_neg (x : Rat) : ab (-x) = ab x := by unfold ab; grind
theorem ab_sub (x y : Rat) : ab (x - y) ≤ ab x + ab y := by unfold ab; grind
theorem ab_pos {x : Rat} (h : 0 ≤ x) : ab x = x := by unfold ab; grind
theorem ab_npos {x : Rat} (h : x ≤ 0) : ab x = -x := by unfold ab; grind
theorem ab_mul (x y : Rat) : ab (x * y) = ab x * ab y := by
  rcases @Rat.le_total 0 x with h1 | h1 <;> rcases @Rat.le_total 0 y with h2 | h2
  · rw [ab_pos h1, ab_pos h2, ab_pos (Rat.mul_nonneg h1 h2)]
  · have h3 := Rat.mul_nonneg h1 (show 0 ≤ -y by grind)
    rw [ab_pos h1, ab_npos h2, ab_npos (by grind)]; grind
  · have h3 := Rat.mul_nonneg (show 0 ≤ -x by grind) h2
    rw [ab_npos h1, ab_pos h2, ab_npos (by grind)]; grind
  · have h3 := Rat.mul_nonneg (show 0 ≤ -x by grind) (show 0 ≤ -y by grind)
    rw [ab_npos h1, ab_npos h2, ab_pos (by grind)]; grind
theorem mul_le {a b c d : Rat} (h1 : a ≤ b) (h2 : c ≤ d) (h3 : 0 ≤ c) (h4 : 0 ≤ b) : a * c ≤ b * d := by
  have e1 : a * c ≤ b * c := Rat.mul_le_mul_of_nonneg_right h1 h3
  have e2 : b * c ≤ b * d := Rat.mul_le_mul_of_nonneg_left h2 h4
  grind
theorem ab_mul_le {x y m k : Rat} (h1 : ab x ≤ m) (h2 : ab y ≤ k) : ab (x * y) ≤ m * k := by
  rw [ab_mul]
  exact mul_le h1 h2 (ab_nonneg _) (by have := ab_nonneg x; grind)
theorem ab_zero {x : Rat} (h : ab x = 0) : x = 0 := by unfold ab at h; grind
theorem ab_eq0 : ab 0 = 0 := by unfold ab; grind
def In (R x : Rat) : Prop := -R ≤ x ∧ x ≤ R
theorem In.ab {R x : Rat} (h : In R x) : T.ab x ≤ R := ab_le h.2 (by have := h.1; grind)
def Bd (R : Rat) (f : Rat → Rat) (M : Rat) : Prop := 0 ≤ M ∧ ∀ x, In R x → ab (f x) ≤ M
def Lip (R : Rat) (f : Rat → Rat) (L : Rat) : Prop := 0 ≤ L ∧ ∀ x y, In R x → In R y → ab (f y - f x) ≤ L * ab (y - x)
def Dv (R : Rat) (f g : Rat → Rat) (C : Rat) : Prop := 0 ≤ C ∧ ∀ x y, In R x → In R y → ab (f y - f x - (y - x) * g x) ≤ C * (ab (y - x) * ab (y - x))
inductive P : (Rat → Rat) → Prop
  | const (c : Rat) : P (fun _ => c)
  | id : P (fun x => x)
  | add {f g : Rat → Rat} : P f → P g → P (fun x => f x + g x)
  | mul {f g : Rat → Rat} : P f → P g → P (fun x => f x * g x)
theorem P.neg {f : Rat → Rat} (h : P f) : P (fun x => - f x) := by
  have h2 := P.mul (P.const (-1)) h
  have e : (fun x => -1 * f x) = (fun x => - f x) := by funext x; grind
  rwa [e] at h2
theorem P.sub {f g : Rat → Rat} (h : P f) (k : P g) : P (fun x => f x - g x) := by
  have h2 := P.add h k.neg
  have e : (fun x => f x + - g x) = (fun x => f x - g x) := by funext x; grind
  rwa [e] at h2
theorem P.pow {f : Rat → Rat} (h : P f) : ∀ n : Nat, P (fun x => f x ^ n)
  | 0 => by
    have e : (fun x => f x ^ 0) = (fun _ => (1 : Rat)) := by funext x; grind
    rw [e]; exact .const 1
  | n + 1 => by
    have h2 := P.mul (h.pow n) h
    have e : (fun x => f x ^ n * f x) = (fun x => f x ^ (n + 1)) := by funext x; grind
    rwa [e] at h2
theorem P.bd {f : Rat → Rat} (h : P f) (R : Rat) : ∃ M, Bd R f M := by
  induction h with
  | const c => exact ⟨ab c, ab_nonneg _, fun x _ => Rat.le_refl⟩
  | id =>
    refine ⟨ab R, ab_nonneg _, fun x hx => ?_⟩
    have := hx.ab; have := le_ab R; grind
  | add _ _ h1 h2 =>
    obtain ⟨M, m0, hM⟩ := h1; obtain ⟨K, k0, hK⟩ := h2
    refine ⟨M + K, by grind, fun x hx => ?_⟩
    have a1 := hM x hx; have a2 := hK x hx
    rename_i f g _ _
    have := ab_add (f x) (g x)
    show ab (f x + g x) ≤ M + K
    grind
  | mul _ _ h1 h2 =>
    obtain ⟨M, m0, hM⟩ := h1; obtain ⟨K, k0, hK⟩ := h2
    exact ⟨M * K, Rat.mul_nonneg m0 k0, fun x hx => ab_mul_le (hM x hx) (hK x hx)⟩
inductive D : (Rat → Rat) → (Rat → Rat) → Prop
  | const (c : Rat) : D (fun _ => c) (fun _ => 0)
  | id : D (fun x => x) (fun _ => 1)
  | add {f g f' g' : Rat → Rat} : D f f' → D g g' → D (fun x => f x + g x) (fun x => f' x + g' x)
  | mul {f g f' g' : Rat → Rat} : D f f' → D g g' → D (fun x => f x * g x) (fun x => f' x * g x + f x * g' x)
theorem D.left {f f' : Rat → Rat} (h : D f f') : P f := by
  induction h with
  | const c => exact .const c
  | id => exact .id
  | add _ _ h1 h2 => exact .add h1 h2
  | mul _ _ h1 h2 => exact .mul h1 h2
theorem D.right {f f' : Rat → Rat} (h : D f f') : P f' := by
  induction h with
  | const c => exact .const 0
  | id => exact .const 1
  | add _ _ h1 h2 => exact .add h1 h2
  | mul a b h1 h2 => exact .add (.mul h1 b.left) (.mul a.left h2)
theorem P.der {f : Rat → Rat} (h : P f) : ∃ f', D f f' := by
  induction h with
  | const c => exact ⟨_, .const c⟩
  | id => exact ⟨_, .id⟩
  | add _ _ h1 h2 => obtain ⟨_, h1⟩ := h1; obtain ⟨_, h2⟩ := h2; exact ⟨_, .add h1 h2⟩
  | mul _ _ h1 h2 => obtain ⟨_, h1⟩ := h1; obtain ⟨_, h2⟩ := h2; exact ⟨_, .mul h1 h2⟩
theorem P.lip {f : Rat → Rat} (h : P f) (R : Rat) : ∃ L, Lip R f L := by
  induction h with
  | const c =>
    refine ⟨0, Rat.le_refl, fun x y _ _ => ?_⟩
    have e : c - c = 0 := by grind
    show ab (c - c) ≤ _
    rw [e, ab_eq0]; grind
  | id =>
    refine ⟨1, by grind, fun x y _ _ => ?_⟩
    show ab (y - x) ≤ 1 * ab (y - x)
    grind
  | add _ _ h1 h2 =>
    obtain ⟨M, m0, hM⟩ := h1; obtain ⟨K, k0, hK⟩ := h2
    refine ⟨M + K, by grind, fun x y hx hy => ?_⟩
    have a1 := hM x y hx hy; have a2 := hK x y hx hy
    rename_i f g _ _
    have := ab_add (f y - f x) (g y - g x)
    show ab (f y + g y - (f x + g x)) ≤ (M + K) * ab (y - x)
    have e : f y + g y - (f x + g x) = (f y - f x) + (g y - g x) := by grind
    rw [e]; grind
  | mul p1 p2 h1 h2 =>
    obtain ⟨M, m0, hM⟩ := h1; obtain ⟨K, k0, hK⟩ := h2
    obtain ⟨A, a0, hA⟩ := p1.bd R
    obtain ⟨B, b0, hB⟩ := p2.bd R
    have q1 := Rat.mul_nonneg m0 b0; have q2 := Rat.mul_nonneg a0 k0
    refine ⟨M * B + A * K, by grind, fun x y hx hy => ?_⟩
    rename_i f g
    have r1 := ab_mul_le (hM x y hx hy) (hB y hy)
    have r2 := ab_mul_le (hA x hx) (hK x y hx hy)
    have := ab_add ((f y - f x) * g y) (f x * (g y - g x))
    show ab (f y * g y - f x * g x) ≤ _
    have e : f y * g y - f x * g x = (f y - f x) * g y + f x * (g y - g x) := by grind
    rw [e]; grind
theorem D.dv {f f' : Rat → Rat} (h : D f f') (R : Rat) : ∃ C, Dv R f f' C := by
  induction h with
  | const c =>
    refine ⟨0, Rat.le_refl, fun x y _ _ => ?_⟩
    have e : c - c - (y - x) * 0 = 0 := by grind
    show ab (c - c - (y - x) * 0) ≤ _
    rw [e, ab_eq0]; grind
  | id =>
    refine ⟨0, Rat.le_refl, fun x y _ _ => ?_⟩
    have e : y - x - (y - x) * 1 = 0 := by grind
    show ab (y - x - (y - x) * 1) ≤ _
    rw [e, ab_eq0]; grind
  | add _ _ h1 h2 =>
    obtain ⟨M, m0, hM⟩ := h1; obtain ⟨K, k0, hK⟩ := h2
    refine ⟨M + K, by grind, fun x y hx hy => ?_⟩
    have a1 := hM x y hx hy; have a2 := hK x y hx hy
    rename_i f g f' g' _ _
    have := ab_add (f y - f x - (y - x) * f' x) (g y - g x - (y - x) * g' x)
    show ab (f y + g y - (f x + g x) - (y - x) * (f' x + g' x)) ≤ _
    have e : f y + g y - (f x + g x) - (y - x) * (f' x + g' x) = (f y - f x - (y - x) * f' x) + (g y - g x - (y - x) * g' x) := by grind
    rw [e]; grind
  | mul p1 p2 h1 h2 =>
    obtain ⟨M, m0, hM⟩ := h1; obtain ⟨K, k0, hK⟩ := h2
    obtain ⟨A, a0, hA⟩ := p1.left.bd R
    obtain ⟨B, b0, hB⟩ := p2.left.bd R
    obtain ⟨L, l0, hL⟩ := p2.left.lip R
    obtain ⟨E, e0, hE⟩ := p1.right.bd R
    have q1 := Rat.mul_nonneg m0 b0; have q2 := Rat.mul_nonneg a0 k0; have q3 := Rat.mul_nonneg e0 l0
    refine ⟨M * B + A * K + E * L, by grind, fun x y hx hy => ?_⟩
    rename_i f g f' g'
    have r1 := ab_mul_le (hM x y hx hy) (hB y hy)
    have r2 := ab_mul_le (hA x hx) (hK x y hx hy)
    have r3 := ab_mul_le (ab_mul_le (Rat.le_refl (a := ab (y - x))) (hE x hx)) (hL x y hx hy)
    have := ab_add ((f y - f x - (y - x) * f' x) * g y + f x * (g y - g x - (y - x) * g' x)) ((y - x) * f' x * (g y - g x))
    have := ab_add ((f y - f x - (y - x) * f' x) * g y) (f x * (g y - g x - (y - x) * g' x))
    show ab (f y * g y - f x * g x - (y - x) * (f' x * g x + f x * g' x)) ≤ _
    have e : f y * g y - f x * g x - (y - x) * (f' x * g x + f x * g' x) = (f y - f x - (y - x) * f' x) * g y + f x * (g y - g x - (y - x) * g' x) + (y - x) * f' x * (g y - g x) := by grind
    rw [e]; grind
end T
end Go.Proofs.Ytjpalbonclgflaa

/- Strings of the same bytes. -/
namespace Go.Proofs.Ytjpalbonclgflaa
open Go.RowKit

theorem str_ext {s t : ByteArray} (h : s.data.toList = t.data.toList) : s = t := by
  cases s; cases t; simp at h; rw [h]
theorem zA {α : Type} (l : List α) (i : Nat) (a : α) : l.toArray.setIfInBounds i a = (l.set i a).toArray := by simp
theorem zB {α : Type} (x : α) (l : List α) (b : α) : (x :: l).set 0 b = b :: l := rfl
theorem zC {α : Type} (x : α) (l : List α) (n : Nat) (b : α) : (x :: l).set (n + 1) b = x :: l.set n b := rfl
theorem zT {P : Program} {md : Region.Mode} {ops : Array Oper} {Q : Exit → Act → World → Prop} {S : World → Prop} {fuel : Nat} {listed : Array Bool} {a : Act} {w : World} (i : Nat) {oi : Oper} {v : Value} (hS : S w := by assumption)
    (hi : ops[i]? = some oi := by exact rfl) (hs : Region.noSelect ops = true := by kernel_rfl) (hf : Region.free md ops listed i = true := by kernel_rfl) (hr : (Region.ready md ops listed).contains i = true := by kernel_rfl)
    (hQ : ∀ c a w, Q (.panic c) (a.put oi.dst v) w → Q (.panic c) a w := by exact fun _ _ _ h => h) (hg : Region.wanted oi (yielded ops a.tmps) = true := by kernel_rfl)
    (y : ∀ wS, S wS → (execOp a.eval oi).run P wS = .ok (.value v) wS := by (intro wS hSw; (try dsimp only at hSw); go_simp; (try with_reducible rfl))) (h : wpAnyH P md ops Q S fuel (listed.setIfInBounds i true) (a.put oi.dst v) w) : wpAnyH P md ops Q S (fuel + 1) listed a w :=
  wpAnyH_take hi hs hf hr hQ (Or.inl ⟨hg, y⟩) hS h
theorem zR {P : Program} {md : Region.Mode} {ops : Array Oper} {Q : Exit → Act → World → Prop} {S : World → Prop} {fuel : Nat} {listed : Array Bool} {a : Act} {w : World} (i : Nat) {o : Oper} (hr : Region.ready md ops listed = [i] := by kernel_rfl) (ho : ops[i]? = some o := by exact rfl)
    (h : ∀ K' : Act → World → Prop, Shut (∀ a w, S w → (S w → wpAnyH P md ops Q S fuel (listed.setIfInBounds i true) a w) → K' a w) → if Region.wanted o (yielded ops a.tmps) = true then Oper.wp P o a w K' Q else K' (a.put o.dst undef) w) :
    wpAnyH P md ops Q S (fuel + 1) listed a w := wpAnyH_ready hr (by simp) (AllReadyH.cons ho h AllReadyH.nil)
theorem Blk.c {w : World} {b : Nat} {t : TypeId} {xs : List Value} (h : Blk w b t xs) (j : Nat) {v : Value} (e : xs[j]? = some v) : w.cell? ⟨b, j, none⟩ = some v := h.cell e
theorem Blk.f1 {w : World} {b : Nat} {t : TypeId} {x0 : Value} (h : Blk w b t [x0]) : w.cell? ⟨b, 0, none⟩ = some x0 ∧ w.frozen? ⟨b, 0, none⟩ = false := ⟨h.cell rfl, h.frozen 0⟩
theorem Blk.f2 {w : World} {b : Nat} {t : TypeId} {x0 x1 : Value} (h : Blk w b t [x0, x1]) : w.cell? ⟨b, 0, none⟩ = some x0 ∧ w.frozen? ⟨b, 0, none⟩ = false ∧ w.cell? ⟨b, 1, none⟩ = some x1 ∧ w.frozen? ⟨b, 1, none⟩ = false := ⟨h.cell rfl, h.frozen 0, h.cell rfl, h.frozen 1⟩
theorem Blk.f3 {w : World} {b : Nat} {t : TypeId} {x0 x1 x2 : Value} (h : Blk w b t [x0, x1, x2]) : w.cell? ⟨b, 0, none⟩ = some x0 ∧ w.frozen? ⟨b, 0, none⟩ = false ∧ w.cell? ⟨b, 1, none⟩ = some x1 ∧ w.frozen? ⟨b, 1, none⟩ = false ∧ w.cell? ⟨b, 2, none⟩ = some x2 ∧ w.frozen? ⟨b, 2, none⟩ = false := ⟨h.cell rfl, h.frozen 0, h.cell rfl, h.frozen 1, h.cell rfl, h.frozen 2⟩
theorem Blk.f4 {w : World} {b : Nat} {t : TypeId} {x0 x1 x2 x3 : Value} (h : Blk w b t [x0, x1, x2, x3]) : w.cell? ⟨b, 0, none⟩ = some x0 ∧ w.frozen? ⟨b, 0, none⟩ = false ∧ w.cell? ⟨b, 1, none⟩ = some x1 ∧ w.frozen? ⟨b, 1, none⟩ = false ∧ w.cell? ⟨b, 2, none⟩ = some x2 ∧ w.frozen? ⟨b, 2, none⟩ = false ∧ w.cell? ⟨b, 3, none⟩ = some x3 ∧ w.frozen? ⟨b, 3, none⟩ = false := ⟨h.cell rfl, h.frozen 0, h.cell rfl, h.frozen 1, h.cell rfl, h.frozen 2, h.cell rfl, h.frozen 3⟩
theorem Blk.f5 {w : World} {b : Nat} {t : TypeId} {x0 x1 x2 x3 x4 : Value} (h : Blk w b t [x0, x1, x2, x3, x4]) : w.cell? ⟨b, 0, none⟩ = some x0 ∧ w.frozen? ⟨b, 0, none⟩ = false ∧ w.cell? ⟨b, 1, none⟩ = some x1 ∧ w.frozen? ⟨b, 1, none⟩ = false ∧ w.cell? ⟨b, 2, none⟩ = some x2 ∧ w.frozen? ⟨b, 2, none⟩ = false ∧ w.cell? ⟨b, 3, none⟩ = some x3 ∧ w.frozen? ⟨b, 3, none⟩ = false ∧ w.cell? ⟨b, 4, none⟩ = some x4 ∧ w.frozen? ⟨b, 4, none⟩ = false := ⟨h.cell rfl, h.frozen 0, h.cell rfl, h.frozen 1, h.cell rfl, h.frozen 2, h.cell rfl, h.frozen 3, h.cell rfl, h.frozen 4⟩
theorem Blk.f6 {w : World} {b : Nat} {t : TypeId} {x0 x1 x2 x3 x4 x5 : Value} (h : Blk w b t [x0, x1, x2, x3, x4, x5]) : w.cell? ⟨b, 0, none⟩ = some x0 ∧ w.frozen? ⟨b, 0, none⟩ = false ∧ w.cell? ⟨b, 1, none⟩ = some x1 ∧ w.frozen? ⟨b, 1, none⟩ = false ∧ w.cell? ⟨b, 2, none⟩ = some x2 ∧ w.frozen? ⟨b, 2, none⟩ = false ∧ w.cell? ⟨b, 3, none⟩ = some x3 ∧ w.frozen? ⟨b, 3, none⟩ = false ∧ w.cell? ⟨b, 4, none⟩ = some x4 ∧ w.frozen? ⟨b, 4, none⟩ = false ∧ w.cell? ⟨b, 5, none⟩ = some x5 ∧ w.frozen? ⟨b, 5, none⟩ = false := ⟨h.cell rfl, h.frozen 0, h.cell rfl, h.frozen 1, h.cell rfl, h.frozen 2, h.cell rfl, h.frozen 3, h.cell rfl, h.frozen 4, h.cell rfl, h.frozen 5⟩
theorem Blk.f7 {w : World} {b : Nat} {t : TypeId} {x0 x1 x2 x3 x4 x5 x6 : Value} (h : Blk w b t [x0, x1, x2, x3, x4, x5, x6]) : w.cell? ⟨b, 0, none⟩ = some x0 ∧ w.frozen? ⟨b, 0, none⟩ = false ∧ w.cell? ⟨b, 1, none⟩ = some x1 ∧ w.frozen? ⟨b, 1, none⟩ = false ∧ w.cell? ⟨b, 2, none⟩ = some x2 ∧ w.frozen? ⟨b, 2, none⟩ = false ∧ w.cell? ⟨b, 3, none⟩ = some x3 ∧ w.frozen? ⟨b, 3, none⟩ = false ∧ w.cell? ⟨b, 4, none⟩ = some x4 ∧ w.frozen? ⟨b, 4, none⟩ = false ∧ w.cell? ⟨b, 5, none⟩ = some x5 ∧ w.frozen? ⟨b, 5, none⟩ = false ∧ w.cell? ⟨b, 6, none⟩ = some x6 ∧ w.frozen? ⟨b, 6, none⟩ = false := ⟨h.cell rfl, h.frozen 0, h.cell rfl, h.frozen 1, h.cell rfl, h.frozen 2, h.cell rfl, h.frozen 3, h.cell rfl, h.frozen 4, h.cell rfl, h.frozen 5, h.cell rfl, h.frozen 6⟩
theorem Blk.f8 {w : World} {b : Nat} {t : TypeId} {x0 x1 x2 x3 x4 x5 x6 x7 : Value} (h : Blk w b t [x0, x1, x2, x3, x4, x5, x6, x7]) : w.cell? ⟨b, 0, none⟩ = some x0 ∧ w.frozen? ⟨b, 0, none⟩ = false ∧ w.cell? ⟨b, 1, none⟩ = some x1 ∧ w.frozen? ⟨b, 1, none⟩ = false ∧ w.cell? ⟨b, 2, none⟩ = some x2 ∧ w.frozen? ⟨b, 2, none⟩ = false ∧ w.cell? ⟨b, 3, none⟩ = some x3 ∧ w.frozen? ⟨b, 3, none⟩ = false ∧ w.cell? ⟨b, 4, none⟩ = some x4 ∧ w.frozen? ⟨b, 4, none⟩ = false ∧ w.cell? ⟨b, 5, none⟩ = some x5 ∧ w.frozen? ⟨b, 5, none⟩ = false ∧ w.cell? ⟨b, 6, none⟩ = some x6 ∧ w.frozen? ⟨b, 6, none⟩ = false ∧ w.cell? ⟨b, 7, none⟩ = some x7 ∧ w.frozen? ⟨b, 7, none⟩ = false := ⟨h.cell rfl, h.frozen 0, h.cell rfl, h.frozen 1, h.cell rfl, h.frozen 2, h.cell rfl, h.frozen 3, h.cell rfl, h.frozen 4, h.cell rfl, h.frozen 5, h.cell rfl, h.frozen 6, h.cell rfl, h.frozen 7⟩
theorem zK {B : Nat} {w w' : World} (h : RowKit.Below B w w') {b o : Nat} {v : Value} (hb : b < B) (e : w.cell? ⟨b, o, none⟩ = some v) : w'.cell? ⟨b, o, none⟩ = some v := (h.cell (p := ⟨b, o, none⟩) hb).trans e
theorem zh {p : Prop} (h : p) : RowKit.Hid p := h
end Go.Proofs.Ytjpalbonclgflaa

