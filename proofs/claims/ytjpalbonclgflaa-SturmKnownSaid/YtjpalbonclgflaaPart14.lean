/- Contracts and plain laws of several functions, one after the other: EqInt, AppRow, RowI, EqJ. -/
import Derived.Laws.StructEq
import Derived.Laws.OwnMore
import Derived.Maps.AppendAt
import Derived.Deep.RegionHeld3
import Derived.Deep.AppendLies
import Derived.BigQuiet
import Derived.Test.YtjpalbonclgflaaIntB
import Derived.Test.YtjpalbonclgflaaPart1
import Derived.Test.YtjpalbonclgflaaPart7
/- Equality of two integers as the program compares them. -/
namespace Go.Proofs.Ytjpalbonclgflaa
open Go.RowKit

theorem iqType : Try.prog.underlying 33 = some (.struct (Try.prog.fieldsOf 33)) := by kernel_rfl
theorem iqStood : Try.prog.stoodInHeld 33 = false := by kernel_rfl
theorem iqFlds : (Try.prog.fieldsOf 33).toList.map (fun f => (f.type, f.offset, f.name == "_")) = [(4, 0, false), (9, 1, false)] := by kernel_rfl
set_option maxRecDepth 100000 in
theorem eqIn_int (a b : Bool) (s t : ByteArray) (w : World) : (Op.equalIn 10000 33 (.agg #[.bool a, .string s]) (.agg #[.bool b, .string t])).run Try.prog w = .ok (a == b && s == t) w := by
 have e : ∀ fs, (Try.prog.fieldsOf 33).toList = fs → (Op.eqFields 9999 #[.bool a, .string s] #[.bool b, .string t] fs).run Try.prog w = .ok (a == b && s == t) w := by
  intro fs hfs
  have hm := iqFlds
  rw [hfs] at hm
  match fs, hm with
  | [f0, f1], hm =>
   simp only [List.map_cons, List.map_nil, List.cons.injEq, Prod.mk.injEq, and_true] at hm
   obtain ⟨⟨t0, o0, n0⟩, ⟨t1, o1, n1⟩⟩ := hm
   rw [beq_eq_false_iff_ne] at n0 n1
   simp [Op.eqFields, n0, n1, t0, o0, t1, o1, Go.part, Try.isAgg4, Try.isAgg9, run_equalIn_bool', run_equalIn_string, Try.underlying4, Try.underlying9]
   rw [beq_toListBytes]
   by_cases h1 : a = b <;> by_cases h2 : s.toList = t.toList <;> simp [h1, h2]
 exact (run_equalIn_struct (P := Try.prog) w 9999 33 _ _ iqType iqStood).trans (e _ rfl)
end Go.Proofs.Ytjpalbonclgflaa

/- append of a whole row (nil or not, empty or not) to a slice of the call's own: at a step of a region that draws its order. -/
namespace Go.Proofs.Ytjpalbonclgflaa
open Go.RowKit

theorem run_append_row {P : Program} (w : World) (base : Nat) (t ty e : TypeId) (z : Value) (size bytes : Nat) (ht : P.underlying t = some (.slice e)) (hinfo : (P.info? e).map (fun i => (i.zero, i.size, i.bytes)) = some (some z, size, bytes))
  (hzs : z.cells.size = size) (hsz : 0 < size) (v : Value) (n : Nat) (xs : List Value) (hown : w.ownsRow base e size v n xs)
  (sv : Value) (m : Nat) (news : List Value) (hrow : Row w sv m news) (hl : news.length = m * size) (h1 : ∀ u ∈ news, u.oneCell' = true)
  (h63 : n + m ≤ maxLen) (hbytes : (n + m) * bytes ≤ 140737488355328) (hbase : base ≤ w.heap.size) :
  ∃ v' w', (Builtin.append_ #[t, t] ty #[v, sv]).run P w = .ok v' w' ∧ w'.ownsRow base e size v' (n + m) (xs ++ news) ∧ w.grownBy w' v.ownBlock := by
 obtain ⟨i, hi, hz0, hz1, hz2⟩ := info_parts hinfo
 rcases hrow with ⟨rfl, rfl, rfl⟩ | ⟨b, off, cap, rfl, h2, h3, h4, h5⟩
 ·
  refine ⟨v, w, run_append_owned_none (P := P) (w := w) base t ty e i size ht hi v n xs hown, by simpa using hown, ⟨rfl, rfl, rfl, Nat.le_refl _, fun _ _ _ => rfl⟩⟩
 ·
  obtain ⟨v', w', r1, r2, r3, -⟩ := run_append_own_at (P := P) w base t ty e i z size bytes ht hi hz0 hz1 hz2 hzs hsz v n xs hown ⟨b, off, none⟩ m cap news hl (fun j u hu => by
   have := h5 j u hu
   unfold Addr.add
   split
   ·
    rename_i h0; subst h0; exact this
   ·
    exact this) h1 h63 hbytes hbase
  exact ⟨v', w', r1, r2, r3⟩
theorem step_append_row {P : Program} {w : World} {ops : Array Oper} {o : Oper} {a : Act} {K : Act → World → Prop} {Q : Exit → Act → World → Prop} {E : Prop} (hgd : o.guard = none) (s x : Operand) (t : TypeId)
  (ho : o.op = .call { callee := .builtin .append, args := #[s, x], argTypes := #[t, t] })
  (base : Nat) (e : TypeId) (z : Value) (size bytes : Nat) (ht : P.underlying t = some (.slice e)) (hinfo : (P.info? e).map (fun i => (i.zero, i.size, i.bytes)) = some (some z, size, bytes))
  (hzs : z.cells.size = size) (hsz : 0 < size) (v : Value) (n : Nat) (xs : List Value) (hs : a.eval s = v) (hown : w.ownsRow base e size v n xs)
  (sv : Value) (m : Nat) (news : List Value) (hx : a.eval x = sv) (hrow : Row w sv m news) (hl : news.length = m * size) (h1 : ∀ u ∈ news, u.oneCell' = true)
  (h63 : n + m ≤ maxLen) (hbytes : (n + m) * bytes ≤ 140737488355328) (hbase : base ≤ w.heap.size)
  (h : ∀ v' w', w'.ownsRow base e size v' (n + m) (xs ++ news) → w.grownBy w' v.ownBlock → K (a.put o.dst v') w') :
  if Region.wanted o (yielded ops a.tmps) = true then Oper.wp P o a w K Q else E := by
 have hw : Region.wanted o (yielded ops a.tmps) = true := by simp [Region.wanted, hgd]
 rw [if_pos hw]
 obtain ⟨v', w', hr, h2, h3⟩ := run_append_row (P := P) w base t o.type e z size bytes ht hinfo hzs hsz v n xs hown sv m news hrow hl h1 h63 hbytes hbase
 unfold Oper.wp execOp
 simp only [ho, resolve, invoke, builtin, Sem.run_bind, Sem.run_pure, Result.andThen_ok, List.map_toArray, List.map_cons, List.map_nil, hs, hx, hr]
 exact h v' w' h2 h3
theorem Blk.grown {w w' : World} {b : Nat} {t : TypeId} {xs : List Value} {row : Option Nat} (h : Blk w b t xs) (hg : w.grownBy w' row) (hne : row ≠ some b) : Blk w' b t xs := h.of_block (hg.block b h.lt hne.symm)
theorem Row.le {w : World} {a : Option Addr} {m c : Nat} {xs : List Value} (h : Row w (.slice a m c) m xs) : m ≤ c := by
 rcases h with ⟨hv, hn, -⟩ | ⟨b, off, cap, hv, h1, -⟩
 ·
  omega
 ·
  simp only [Value.slice.injEq] at hv; omega
end Go.Proofs.Ytjpalbonclgflaa

/- Rows of integers: made, set, held in tables (the part of ERow that needs no graph). -/
namespace Go.Proofs.Ytjpalbonclgflaa
open Go.RowKit

def civ (l : List Int) : List Value := l.flatMap fun z => [.bool (ineg z), .string (imag z)]
theorem civ_length (l : List Int) : (civ l).length = l.length * 2 := by
 induction l with
 | nil => rfl
 | cons e l ih => simp only [civ, List.flatMap_cons, List.length_append, List.length_cons] at ih ⊢; rw [ih]; simp; omega
theorem civ_append (l k : List Int) : civ (l ++ k) = civ l ++ civ k := by simp [civ]
theorem civ_cons (z : Int) (l : List Int) : civ (z :: l) = .bool (ineg z) :: .string (imag z) :: civ l := by simp [civ]
theorem civ_get {l : List Int} {k : Nat} {z : Int} (h : l[k]? = some z) : (civ l)[k * 2]? = some (.bool (ineg z)) ∧ (civ l)[k * 2 + 1]? = some (.string (imag z)) := by
 induction l generalizing k with
 | nil => simp at h
 | cons x l ih =>
  cases k with
  | zero => simp at h; subst h; exact ⟨rfl, rfl⟩
  | succ k =>
   have := ih (k := k) (by simpa using h)
   rw [civ, List.flatMap_cons]
   have e1 : (k + 1) * 2 = k * 2 + 2 := by omega
   rw [e1]
   exact this
theorem civ_set (l : List Int) (k : Nat) (z : Int) : ((civ l).set (k * 2) (.bool (ineg z))).set (k * 2 + 1) (.string (imag z)) = civ (l.set k z) := by
 induction l generalizing k with
 | nil => rfl
 | cons x l ih =>
  cases k with
  | zero => rfl
  | succ k =>
   rw [List.set_cons_succ, civ_cons, civ_cons, show (k + 1) * 2 = k * 2 + 1 + 1 by omega, List.set_cons_succ, List.set_cons_succ, List.set_cons_succ, List.set_cons_succ, ih]
theorem int_cells {w w' : World} {B b off : Nat} {l : List Int} {k : Nat} {z : Int} (hce : ∀ (j : Nat) (u : Value), (civ l)[j]? = some u → w.cell? ⟨b, off + j, none⟩ = some u) (hb : Below B w w') (hlt : b < B) (h : l[k]? = some z) :
  w'.cell? ⟨b, off + k * 2, none⟩ = some (.bool (ineg z)) ∧ w'.cell? ⟨b, off + k * 2 + 1, none⟩ = some (.string (imag z)) :=
 ⟨(hb.cell (p := ⟨b, off + k * 2, none⟩) hlt).trans (hce (k * 2) _ (civ_get h).1), (hb.cell (p := ⟨b, off + k * 2 + 1, none⟩) hlt).trans (hce (k * 2 + 1) _ (civ_get h).2)⟩
def small (z : Int) : Prop := (imag z).size ≤ 1099511627775
theorem infoZ : (Try.prog.info? 33).map (fun i => (i.zero, i.size, i.bytes)) = some (some (.agg #[.bool false, .string ⟨#[]⟩]), 2, 24) := by kernel_rfl
theorem ineg_zero : ineg 0 = false := rfl
theorem imag_zero : imag 0 = ⟨#[]⟩ := by simp [imag, bb_zero]
theorem zrow_int (c : Nat) : zrow (.agg #[.bool false, .string ⟨#[]⟩]) c = civ (List.replicate c 0) := by
 induction c with
 | zero => rfl
 | succ c ih =>
  rw [List.replicate_succ, civ_cons, ineg_zero, imag_zero, ← ih]
  simp [zrow, List.replicate_succ, Value.cells]
theorem mkI (n : Nat) (h : n ≤ 1000000) (N : Int) (hN : N = (n : Int)) (w : World) : (Instr.makeSlice 25 (.int .i64 N) (.int .i64 N)).run Try.prog w = .ok (.slice (some ⟨w.heap.size, 0, none⟩) n n) (w.alloc (.cells (zarr (.agg #[.bool false, .string ⟨#[]⟩]) n) 33)) :=
 mk_slice 25 33 _ 2 24 Try.underlying25 infoZ rfl .i64 .i64 n n (Nat.le_refl _) (by omega) (by omega) N N hN hN w
theorem blk_mkI (w : World) (n : Nat) : Blk (w.alloc (.cells (zarr (.agg #[.bool false, .string ⟨#[]⟩]) n) 33)) w.heap.size 33 (civ (List.replicate n 0)) := by
 have h := Blk.zero w 33 (.agg #[.bool false, .string ⟨#[]⟩]) n
 rwa [zrow_int] at h
theorem blk_row {w : World} {b : Nat} {l : List Int} (h : Blk w b 33 (civ l)) (hl : l.length ≤ 1000000) : Row w (.slice (some ⟨b, 0, none⟩) l.length l.length) l.length (civ l) := by
 have h2 := Row.ofBlk h (m := l.length) (cap := l.length) (Nat.le_refl _) (by unfold maxLen; omega) (civ l).length
 rwa [List.take_length] at h2
def Tab (w : World) (v : Value) (rows : List (List Int)) : Prop :=
 ∃ rvs : List Value, rvs.length = rows.length ∧ Row w v rows.length rvs ∧ ∀ (i : Nat) (r : List Int), rows[i]? = some r → ∃ rv : Value, rvs[i]? = some rv ∧ Row w rv r.length (civ r)
theorem Tab.below {w w' : World} {v : Value} {rows : List (List Int)} {B : Nat} (h : Tab w v rows) (k : Below B w w') (hB : w.heap.size ≤ B) : Tab w' v rows := by
 obtain ⟨rvs, h1, h2, h3⟩ := h
 exact ⟨rvs, h1, h2.below k hB, fun i r hr => by obtain ⟨rv, h4, h5⟩ := h3 i r hr; exact ⟨rv, h4, h5.below k hB⟩⟩
theorem Tab.drew {w : World} {v : Value} {rows : List (List Int)} (h : Tab w v rows) : Tab w.drew v rows := h
theorem civ_snoc (l : List Int) (z : Int) : civ (l ++ [z]) = civ l ++ [.bool (ineg z), .string (imag z)] := by simp [civ]
end Go.Proofs.Ytjpalbonclgflaa

/- slices.Equal at integers: of equal rows (XEqI without graphs). -/
namespace Go.Proofs.Ytjpalbonclgflaa
open Go.RowKit

theorem eqIn_same (b : Bool) (s : ByteArray) (w : World) : (Op.equalIn 10000 33 (.agg #[.bool b, .string s]) (.agg #[.bool b, .string s])).run Try.prog w = .ok true w := by
 rw [eqIn_int]; have h : (s == s) = true := by rw [beq_toListBytes]; simp
 simp [h]
set_option maxRecDepth 100000 in
set_option maxHeartbeats 3200000 in
theorem equalI_yes (l : List Int) (va vb : Value) (w : World) (ha : Row w va l.length (civ l)) (hb : Row w vb l.length (civ l)) :
  Calls Try.prog 48 #[va, vb] w (Ret w (.bool true)) := by
 obtain ⟨a1, c1, rfl, hle⟩ := ha.slice
 obtain ⟨a2, c2, rfl, -⟩ := hb.slice
 obtain ⟨n, hn⟩ : ∃ n, n = l.length := ⟨_, rfl⟩
 rw [← hn] at ha hb hle ⊢
 have HA := zh ha; clear ha
 have HB := zh hb; clear hb
 have HN := zh hn; clear hn
 have hne : ((n : Int) != (n : Int)) = false := by simp
 go_enter Try.func48, Try.ntmps48
 go_wp2_with fail
 go_loopw [5, 13] (fun _ i wr => ∃ k : Nat, k ≤ n ∧ i = .int .i64 k ∧ Below w.heap.size w wr) (fun _ i _ => n - (intOf i).toNat)
 case atStart => exact ⟨0, Nat.zero_le _, rfl, Below.refl _ _⟩
 case round =>
  obtain ⟨k, hk, rfl, hbel⟩ := hrel
  have HBEL := zh hbel; clear hbel
  by_cases hlt : k < n
  ·
   have hget : l[k]? = some (l[k]'(by rw [← HN.out]; exact hlt)) := List.getElem?_eq_getElem _
   obtain ⟨x, hx⟩ : ∃ x, x = l[k]'(by rw [← HN.out]; exact hlt) := ⟨_, rfl⟩
   rw [← hx] at hget
   obtain ⟨b1, o1, rfl, hb1, hc1⟩ := HA.out.at_ (by omega)
   obtain ⟨b2, o2, rfl, hb2, hc2⟩ := HB.out.at_ (by omega)
   obtain ⟨x0, x1⟩ := int_cells hc1 HBEL.out hb1 hget
   obtain ⟨x2, x3⟩ := int_cells hc2 HBEL.out hb2 hget
   have hxx := fun w' => eqIn_same (ineg x) (imag x) w'
   clear hx hget hc1 hc2
   go_wp2_with fail
   go_quiet (fail)
   go_wp2_with fail
   go_roundw
   case rel => exact ⟨k + 1, by omega, by go_num, below_drewN HBEL.out _⟩
   case measure => simp [intOf]; omega
  ·
   obtain rfl : k = n := by omega
   go_wp2_with fail
   go_ret
   exact ⟨HBEL.out, rfl⟩
end Go.Proofs.Ytjpalbonclgflaa

