/- append of a whole row (nil or not, empty or not) to a slice of the call's own: at a step of a region that draws its order. -/
import Derived.Test.YtadibbbaegbljaaBase
import Derived.Laws.OwnMore
import Derived.Maps.AppendAt
import Derived.Deep.RegionHeld3
namespace Go.Proofs.Ytadibbbaegbljaa
open Go.RowKit

theorem run_append_row {P : Program} (w : World) (base : Nat) (t ty e : TypeId) (z : Value) (size bytes : Nat) (ht : P.underlying t = some (.slice e)) (hinfo : (P.info? e).map (fun i => (i.zero, i.size, i.bytes)) = some (some z, size, bytes))
    (hzs : z.cells.size = size) (hsz : 0 < size) (v : Value) (n : Nat) (xs : List Value) (hown : w.ownsRow base e size v n xs)
    (sv : Value) (m : Nat) (news : List Value) (hrow : Row w sv m news) (hl : news.length = m * size) (h1 : ∀ u ∈ news, u.oneCell' = true)
    (h63 : n + m ≤ maxLen) (hbytes : (n + m) * bytes ≤ 140737488355328) (hbase : base ≤ w.heap.size) :
    ∃ v' w', (Builtin.append_ #[t, t] ty #[v, sv]).run P w = .ok v' w' ∧ w'.ownsRow base e size v' (n + m) (xs ++ news) ∧ w.grownBy w' v.ownBlock := by
  obtain ⟨i, hi, hz0, hz1, hz2⟩ := info_parts hinfo
  rcases hrow with ⟨rfl, rfl, rfl⟩ | ⟨b, off, cap, rfl, h2, h3, h4, h5⟩
  · refine ⟨v, w, run_append_owned_none (P := P) (w := w) base t ty e i size ht hi v n xs hown, by simpa using hown, ⟨rfl, rfl, rfl, Nat.le_refl _, fun _ _ _ => rfl⟩⟩
  · obtain ⟨v', w', r1, r2, r3, -⟩ := run_append_own_at (P := P) w base t ty e i z size bytes ht hi hz0 hz1 hz2 hzs hsz v n xs hown ⟨b, off, none⟩ m cap news hl (fun j u hu => by
      have := h5 j u hu
      unfold Addr.add
      split
      · rename_i h0; subst h0; exact this
      · exact this) h1 h63 hbytes hbase
    exact ⟨v', w', r1, r2, r3⟩
theorem step_append_row {P : Program} {w : World} {ops : Array Oper} {o : Oper} {a : Act} {K : Act → World → Prop} {Q : Exit → Act → World → Prop} {E : Prop} (hgd : o.guard = none) (s x : Operand) (t : TypeId)
    (ho : o.op = .call { callee := .builtin .append, args := #[s, x], argTypes := #[t, t] })
    (base : Nat) (e : TypeId) (z : Value) (size bytes : Nat) (ht : P.underlying t = some (.slice e)) (hinfo : (P.info? e).map (fun i => (i.zero, i.size, i.bytes)) = some (some z, size, bytes))
    (hzs : z.cells.size = size) (hsz : 0 < size) (v : Value) (n : Nat) (xs : List Value) (hs : a.eval s = v) (hown : w.ownsRow base e size v n xs)
    (sv : Value) (m : Nat) (news : List Value) (hx : a.eval x = sv) (hrow : Row w sv m news) (hl : news.length = m * size) (h1 : ∀ u ∈ news, u.oneCell' = true)
    (h63 : n + m ≤ maxLen) (hbytes : (n + m) * bytes ≤ 140737488355328) (hbase : base ≤ w.heap.size)
    (h : ∀ v' w', w'.ownsRow base e size v' (n + m) (xs ++ news) → w.grownBy w' v.ownBlock → K (a.put o.dst v') w') :
    if Region.wanted o (yielded ops a.tmps) = true then Oper.wp P o a w K Q else E := by
  have hw : Region.wanted o (yielded ops a.tmps) = true := by simp [Region.wanted, hgd]
  rw [if_pos hw]
  obtain ⟨v', w', hr, h2, h3⟩ := run_append_row (P := P) w base t o.type e z size bytes ht hinfo hzs hsz v n xs hown sv m news hrow hl h1 h63 hbytes hbase
  unfold Oper.wp execOp
  simp only [ho, resolve, invoke, builtin, Sem.run_bind, Sem.run_pure, Result.andThen_ok, List.map_toArray, List.map_cons, List.map_nil, hs, hx, hr]
  exact h v' w' h2 h3
theorem Blk.grown {w w' : World} {b : Nat} {t : TypeId} {xs : List Value} {row : Option Nat} (h : Blk w b t xs) (hg : w.grownBy w' row) (hne : row ≠ some b) : Blk w' b t xs := h.of_block (hg.block b h.lt hne.symm)
theorem Row.le {w : World} {a : Option Addr} {m c : Nat} {xs : List Value} (h : Row w (.slice a m c) m xs) : m ≤ c := by
  rcases h with ⟨hv, hn, -⟩ | ⟨b, off, cap, hv, h1, -⟩
  · omega
  · simp only [Value.slice.injEq] at hv; omega
/-- 's[:p]' of a row. -/
theorem sl_to {P : Program} (t e : TypeId) (size : Nat) (ht : P.underlying t = some (.slice e)) (hz : ∀ w, (Go.sizeOf e).run P w = .ok size w) (a : Option Addr) (m c p : Nat) (hp : p ≤ m) (hc : m ≤ c) :
    ∃ a' c', (∀ w, (Instr.slice t (.slice a m c) none (some (.int .i64 (p : Int))) none).run P w = .ok (.slice a' p c') w) ∧
      ∀ W xs, Row W (.slice a m c) m xs → Row W (.slice a' p c') p (xs.take (p * size)) := by
  have ht' : P.underlying t = some (.slice (P.elem t)) := by simp [Program.elem, ht]
  have he : P.elem t = e := by simp [Program.elem, ht]
  refine ⟨if c = 0 then a else a.map (·.add (0 * size)), c, fun w => ?_, ?_⟩
  · rw [run_slice_h w t a m c ht' .i64 (p : Int) (by omega) (by omega), he, hz]
    simp only [Result.andThen, sliced, Int.toNat_natCast, Nat.sub_zero]
  · intro W xs h
    have h2 := h.take (p * size)
    rcases h2 with ⟨hv, hn, hx⟩ | ⟨b, off, cap, hv, h3, h4, h5, h6⟩
    · simp only [Value.slice.injEq] at hv
      obtain ⟨rfl, rfl, rfl⟩ := hv
      obtain rfl : p = 0 := by omega
      exact .inl ⟨by simp, rfl, hx⟩
    · simp only [Value.slice.injEq] at hv
      obtain ⟨rfl, -, rfl⟩ := hv
      refine .inr ⟨b, off, c, by simp [Addr.add], by omega, h4, h5, h6⟩
/-- 's[p:]' of a row. -/
theorem sl_from {P : Program} (t e : TypeId) (size : Nat) (ht : P.underlying t = some (.slice e)) (hz : ∀ w, (Go.sizeOf e).run P w = .ok size w) (hs : 0 < size) (a : Option Addr) (m c p : Nat) (hp : p ≤ m) (hc : m ≤ c) :
    ∃ a' c', (∀ w, (Instr.slice t (.slice a m c) (some (.int .i64 (p : Int))) none none).run P w = .ok (.slice a' (m - p) c') w) ∧
      ∀ W xs, Row W (.slice a m c) m xs → xs.length = m * size → Row W (.slice a' (m - p) c') (m - p) (xs.drop (p * size)) := by
  have ht' : P.underlying t = some (.slice (P.elem t)) := by simp [Program.elem, ht]
  have he : P.elem t = e := by simp [Program.elem, ht]
  refine ⟨if c = p then a else a.map (·.add (p * size)), c - p, fun w => ?_, ?_⟩
  · rw [run_slice_l w t a m c ht' .i64 (p : Int) (by omega) (by omega), he, hz]
    simp only [Result.andThen, sliced, Int.toNat_natCast]
  · intro W xs h hl
    rcases h with ⟨hv, hn, hx⟩ | ⟨b, off, cap, hv, h3, h4, h5, h6⟩
    · simp only [Value.slice.injEq] at hv
      obtain ⟨rfl, rfl, rfl⟩ := hv
      obtain rfl : p = 0 := by omega
      exact .inl ⟨by simp, by omega, by simp [hx]⟩
    · simp only [Value.slice.injEq] at hv
      obtain ⟨rfl, -, rfl⟩ := hv
      by_cases hcp : c = p
      · subst hcp
        obtain rfl : m = c := by omega
        refine .inr ⟨b, off, 0, by simp, by omega, by omega, h5, fun j u hu => ?_⟩
        rw [List.drop_of_length_le (by omega)] at hu
        simp at hu
      · refine .inr ⟨b, off + p * size, c - p, ?_, by omega, by omega, h5, fun j u hu => ?_⟩
        · rw [if_neg hcp]
          simp only [Option.map_some, Addr.add]
          split
          · rename_i h0; rw [h0]; rfl
          · rfl
        · rw [List.getElem?_drop] at hu
          have := h6 _ _ hu
          rwa [← Nat.add_assoc] at this
end Go.Proofs.Ytadibbbaegbljaa
