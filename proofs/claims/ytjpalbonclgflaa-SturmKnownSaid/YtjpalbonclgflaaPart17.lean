/- Contracts and plain laws of several functions, one after the other: Coll, All, StK, StD. -/
import Derived.Test.YtjpalbonclgflaaChn
import Derived.Test.YtjpalbonclgflaaPart7
import Derived.Test.YtjpalbonclgflaaChkQ
import Derived.Test.YtjpalbonclgflaaPart14
import Derived.Test.YtjpalbonclgflaaPart6
import Derived.Test.YtjpalbonclgflaaPart16
import Derived.Test.YtjpalbonclgflaaStB
import Derived.Test.YtjpalbonclgflaaStN
/- slices.Collect at the Sturm chain. -/
namespace Go.Proofs.Ytjpalbonclgflaa
open Go.RowKit Go.Shelf

attribute [local go_sem] Oper.semAt_some

theorem infoSl : (Try.prog.info? 25).map (fun i => (i.zero, i.size, i.bytes)) = some (some (.slice none 0 0), 1, 24) := by kernel_rfl
theorem Slices.of_all {c : Array Value} {t : TypeId} {f : Nat × Nat} (h : ∀ v ∈ c.toList, ∃ a n m, v = .slice a n m) : Slices (.cells c t f) := by
 rintro c' t' f' e k v hk
 cases e
 exact h v (by rw [← Array.getElem?_toList] at hk; exact List.mem_of_getElem? hk)
theorem Slices.all {c : Array Value} {t : TypeId} {f : Nat × Nat} (h : Slices (.cells c t f)) : ∀ v ∈ c.toList, ∃ a n m, v = .slice a n m := by
 intro v hv
 obtain ⟨k, hk⟩ := List.mem_iff_getElem?.1 hv
 exact h c t f rfl k v (by rw [← Array.getElem?_toList]; exact hk)
theorem zero_slices (n : Nat) : ∀ v ∈ (Builtin.zeroCells (Value.slice none 0 0).cells n).toList, ∃ a n m, v = .slice a n m := by
 intro v hv
 have hc : (Value.slice none 0 0).cells = #[.slice none 0 0] := rfl
 rw [hc] at hv
 unfold Builtin.zeroCells at hv
 simp only [Array.toList_map, List.mem_map] at hv
 obtain ⟨i, -, rfl⟩ := hv
 refine ⟨none, 0, 0, ?_⟩
 have : i % (#[Value.slice none 0 0] : Array Value).size = 0 := Nat.mod_one i
 rw [this]; rfl
def OwnS (w : World) (base : Nat) (v : Value) (xs : List Hdr) : Prop :=
 w.ownsRow base 25 1 v xs.length (xs.map hv) ∧ ∀ g o, v.ownBlock = some g → w.heap[g]? = some o → Slices o
theorem OwnS.nil (w : World) (base : Nat) : OwnS w base (.slice none 0 0) [] := ⟨World.ownsRow_nil _ _ _ _, fun g o h => by simp [Value.ownBlock] at h⟩
theorem OwnS.block {w w' : World} {base : Nat} {v : Value} {xs : List Hdr} (h : OwnS w base v xs) (hb : ∀ g o, base ≤ g → o.isCells = true → w.heap[g]? = some o → w'.heap[g]? = some o) : OwnS w' base v xs := by
 obtain ⟨⟨h1, h2⟩, h3⟩ := h
 rcases h2 with ⟨rfl, h0⟩ | ⟨g, cap, cur, rfl, hg0, hg, rest⟩
 ·
  exact ⟨⟨h1, .inl ⟨rfl, h0⟩⟩, fun g o h => by simp [Value.ownBlock] at h⟩
 ·
  have hg' := hb g _ hg0 rfl hg
  refine ⟨⟨h1, .inr ⟨g, cap, cur, rfl, hg0, hg', rest⟩⟩, fun g' o he ho => ?_⟩
  simp [Value.ownBlock] at he
  subst he
  rw [hg'] at ho
  exact h3 g o (by simp [Value.ownBlock]) (hg.trans ho)
theorem OwnS.only {c : Nat → Obj → Prop} {A B : World} {base : Nat} {v : Value} {xs : List Hdr} (h : OwnS A base v xs) (ho : Only c A B) (hn : ∀ g o, base ≤ g → o.isCells = true → ¬ c g o) : OwnS B base v xs :=
 h.block fun g o h1 h2 h3 => ho.same g o h3 (hn g o h1 h2)
theorem OwnS.alloc {w : World} {base : Nat} {v : Value} {xs : List Hdr} (h : OwnS w base v xs) (o : Obj) : OwnS (w.alloc o) base v xs :=
 h.only (Only.alloc (fun _ _ => False) w o) (fun _ _ _ _ h => h)
theorem OwnS.setOther {w : World} {base : Nat} {v : Value} {xs : List Hdr} (h : OwnS w base v xs) {a : Addr} (ha : a.block < base) (u : Value) : OwnS (w.setCell a u) base v xs :=
 h.block fun g o h1 _ h3 => (Below.heap_setCell _ _ _ g (by omega)).trans h3
theorem append_s (w : World) (base : Nat) (ty : TypeId) (v : Value) (xs : List Hdr) (hown : OwnS w base v xs) (x : Hdr) (a : Addr) (c : Nat) (hx : w.cell? a = some (hv x)) (hn : xs.length ≤ 100000) (hbase : base ≤ w.heap.size) :
  ∃ v' w', (Builtin.append_ #[43, 43] ty #[v, .slice (some a) 1 c]).run Try.prog w = .ok v' w' ∧ OwnS w' base v' (xs ++ [x]) ∧ w.grownBy w' v.ownBlock := by
 obtain ⟨i0, hi, hz0, hz1, hz2⟩ := info_parts infoSl
 have hnews : ∀ j u, [hv x][j]? = some u → w.cell? (a.add j) = some u := by
  intro j u hj
  match j, hj with
  | 0, hj =>
   simp at hj
   subst hj
   simpa [Addr.add] using hx
 obtain ⟨v', w', hr, h2, h3, -, -⟩ := run_append_own_at (P := Try.prog) w base 43 ty 25 i0 _ 1 24 Try.underlying43 hi hz0 hz1 hz2 rfl (by decide) v xs.length (xs.map hv) hown.1 a 1 c [hv x] rfl hnews (by simp [hv, Value.oneCell']) (by unfold maxLen; omega) (by omega) hbase
 refine ⟨v', w', hr, ⟨by rw [List.length_append, List.map_append]; exact h2, ?_⟩, h3⟩
 have hall : ∀ u ∈ xs.map hv, ∃ a n m, u = .slice a n m := by
  intro u hu
  obtain ⟨y, -, rfl⟩ := List.mem_map.1 hu
  exact ⟨_, _, _, rfl⟩
 have hone : ∀ u ∈ [hv x], ∃ a n m, u = .slice a n m := by
  intro u hu
  rw [List.mem_singleton.1 hu]
  exact ⟨_, _, _, rfl⟩
 have hfresh : ∀ arr : Array Value, (∀ u ∈ arr.toList, ∃ a n m, u = .slice a n m) → ∀ n m g o, (Value.slice (some ⟨w.heap.size, 0, none⟩) n m).ownBlock = some g → (w.drew.alloc (.cells arr 25)).heap[g]? = some o → Slices o := by
  intro arr harr n m g o hg ho
  simp [Value.ownBlock] at hg
  subst hg
  rw [show w.heap.size = w.drew.heap.size from rfl, heap_alloc_new] at ho
  rw [← Option.some.inj ho]
  exact Slices.of_all harr
 obtain ⟨⟨h1, hc⟩, hs⟩ := hown
 rcases hc with ⟨rfl, hn0⟩ | ⟨g, cap, cur, rfl, hbg, hg, hnc, hcm, hcs, htake⟩
 ·
  have hr2 := run_append_nil (P := Try.prog) w 43 ty 25 i0 _ Try.underlying43 hi hz0 a 1 c [hv x] (by rw [hz1]; rfl) hnews (by decide) (by decide) (by rw [hz2]; decide)
  rw [hr2] at hr
  cases hr
  exact hfresh _ (by
   intro u hu
   rw [Array.toList_append] at hu
   rcases List.mem_append.1 hu with h | h
   ·
    exact hone u h
   ·
    exact zero_slices _ u h) _ _
 ·
  by_cases hroom : xs.length + 1 ≤ cap
  ·
   have hr2 := run_append_room (P := Try.prog) w 43 ty 25 i0 Try.underlying43 hi g xs.length cap cur hg a 1 c [hv x] (by rw [hz1]; rfl) hnews (by simp [hv, Value.oneCell']) hroom (by rw [hz1, hcs]; simp; omega)
   rw [hr2] at hr
   cases hr
   intro g' o hg' ho
   simp [Value.ownBlock] at hg'
   subst hg'
   rw [setRow_heap w g cur _ _ _ hg] at ho
   rw [← Option.some.inj ho]
   refine Slices.of_all ?_
   have hcur := (hs g _ (by simp [Value.ownBlock]) hg).all
   intro u hu
   simp only [List.toList_toArray] at hu
   rcases List.mem_append.1 hu with h | h
   ·
    rcases List.mem_append.1 h with h | h
    ·
     exact hcur u (List.mem_of_mem_take h)
    ·
     exact hone u h
   ·
    exact hcur u (List.mem_of_mem_drop h)
  ·
   have holds : ∀ j u, (xs.map hv)[j]? = some u → w.cell? ((⟨g, 0, none⟩ : Addr).add j) = some u := by
    have ho : w.ownsRow base 25 1 (.slice (some ⟨g, 0, none⟩) xs.length cap) xs.length (xs.map hv) := ⟨h1, .inr ⟨g, cap, cur, rfl, hbg, hg, hnc, hcm, hcs, htake⟩⟩
    exact ho.cells (g := g) rfl
   have hr2 := run_append_grow (P := Try.prog) w 43 ty 25 i0 _ Try.underlying43 hi hz0 ⟨g, 0, none⟩ xs.length cap (xs.map hv) (by rw [hz1]; simp) holds a 1 c [hv x] (by rw [hz1]; rfl) hnews (by omega) (by omega) (growslice_fits (by omega) (by rw [hz2]; omega))
   rw [hr2] at hr
   cases hr
   exact hfresh _ (by
    intro u hu
    rw [Array.toList_append, Array.toList_append] at hu
    rcases List.mem_append.1 hu with h | h
    ·
     rcases List.mem_append.1 h with h | h
     ·
      exact hall u h
     ·
      exact hone u h
    ·
     exact zero_slices _ u h) _ _
theorem wpListIn_append_s {F : Fence} {n : Nat} (w : World) {ops : Array Oper} {rest : List Oper} {o : Oper} {a : Act} {Q : Exit → Act → World → Prop}
  (hg : o.guard = none) (s x : Operand) (hop : o.op = Op.call { callee := Callee.builtin Builtin.append, args := #[s, x], argTypes := #[43, 43] })
  (base : Nat) (v : Value) (xs : List Hdr) (hs : a.eval s = v) (hown : OwnS w base v xs) (y : Hdr) (ad : Addr) (c : Nat) (hx : a.eval x = .slice (some ad) 1 c) (hy : w.cell? ad = some (hv y)) (hn : xs.length ≤ 100000) (b3 : base ≤ w.heap.size)
  (hK : ∀ v' w', OwnS w' base v' (xs ++ [y]) → w.grownBy w' v.ownBlock → wpListIn F n Try.prog ops Q rest (a.put o.dst v') w') :
  wpListIn F n Try.prog ops Q (o :: rest) a w := by
 refine wpListIn_plain hg fun K hK' => ?_
 obtain ⟨v', w', hrun, r1, r2⟩ := append_s w base o.type v xs hown y ad c hy hn b3
 unfold Oper.wpIn
 refine ⟨?_, ?_⟩
 ·
  simp [Oper.about, hop, resolve, Target.leads, Sem.run_pure]
 ·
  rw [Oper.semAt_plain F _ _ (by rw [hop]; intro c hc'; cases hc')]
  simp [execOp, hop, resolve, invoke, builtin, hs, hx, hrun, Result.andThen]
  exact hK' _ _ (hK v' w' r1 r2)
end Go.Proofs.Ytjpalbonclgflaa

/- slices.AppendSeq, Collect at the Sturm chain; sturm.chain, all. -/
namespace Go.Proofs.Ytjpalbonclgflaa
open Go.RowKit Go.Shelf

attribute [local go_sem] Oper.semAt_some

theorem Row.far {c : Nat → Obj → Prop} {A B : World} (h : Only c A B) {D : Nat} (hc : ∀ b o, c b o → b < D) {v : Value} {n : Nat} {xs : List Value} (hr : Row A v n xs) (hf : ∀ b, v.ownBlock = some b → D ≤ b) : Row B v n xs := by
 rcases hr with hr | ⟨b, off, cap, hv, h1, h2, h3, h4⟩
 ·
  exact .inl hr
 ·
  refine .inr ⟨b, off, cap, hv, h1, h2, Nat.lt_of_lt_of_le h3 h.size, fun j u hu => ?_⟩
  have hD : D ≤ b := hf b (by rw [hv]; rfl)
  obtain ⟨o, ho⟩ : ∃ o, A.heap[b]? = some o := ⟨_, Array.getElem?_eq_getElem h3⟩
  have hB := h.same b o ho (fun e => by have := hc b o e; omega)
  rw [World.cell?_of_block (a := ⟨b, off + j, none⟩) (w := A) (w' := B) (hB.trans ho.symm)]
  exact h4 j u hu
def TabF (D : Nat) (w : World) (v : Value) (rows : List (List Int)) : Prop :=
 ∃ rvs : List Value, rvs.length = rows.length ∧ (Row w v rows.length rvs ∧ ∀ b, v.ownBlock = some b → D ≤ b) ∧ ∀ (i : Nat) (r : List Int), rows[i]? = some r → ∃ rv : Value, rvs[i]? = some rv ∧ Row w rv r.length (civ r) ∧ ∀ b, rv.ownBlock = some b → D ≤ b
theorem TabF.tab {D : Nat} {w : World} {v : Value} {rows : List (List Int)} (h : TabF D w v rows) : Tab w v rows := by
 obtain ⟨rvs, h1, h2, h3⟩ := h
 exact ⟨rvs, h1, h2.1, fun i r hr => by obtain ⟨rv, h4, h5, -⟩ := h3 i r hr; exact ⟨rv, h4, h5⟩⟩
theorem TabF.only {D : Nat} {c : Nat → Obj → Prop} {A B : World} {v : Value} {rows : List (List Int)} (h : TabF D A v rows) (ho : Only c A B) (hc : ∀ b o, c b o → b < D) : TabF D B v rows := by
 obtain ⟨rvs, h1, h2, h3⟩ := h
 exact ⟨rvs, h1, ⟨Row.far ho hc h2.1 h2.2, h2.2⟩, fun i r hr => by obtain ⟨rv, h4, h5, h6⟩ := h3 i r hr; exact ⟨rv, h4, Row.far ho hc h5 h6, h6⟩⟩
def TabRet (D b : Nat) (rows : List (List Int)) (w : World) (e : Ending) (w' : World) : Prop := Below b w w' ∧ ∃ v, e = .returned v ∧ TabF D w' v rows
theorem tab_of {D : Nat} {w : World} {base : Nat} {v : Value} {xs : List Hdr} {rows : List (List Int)} (ho : OwnS w base v xs) (hr : Rws D w xs rows) (hD : D ≤ base) : TabF D w v rows := by
 refine ⟨xs.map hv, by rw [List.length_map]; exact hr.1, ⟨?_, fun b e => Nat.le_trans hD (ho.1.lt b e).1⟩, fun i r h => ?_⟩
 ·
  rw [← hr.1]; exact own_row ho.1
 ·
  have hi : i < xs.length := by rw [hr.1]; exact (List.getElem?_eq_some_iff.1 h).1
  exact ⟨hv xs[i], by rw [List.getElem?_map, List.getElem?_eq_getElem hi]; rfl, hr.2 i _ r (List.getElem?_eq_getElem hi) h⟩
theorem OwnS.obj {w : World} {base : Nat} {v : Value} {xs : List Hdr} (h : OwnS w base v xs) : ∀ g, v.ownBlock = some g → base ≤ g ∧ g < w.heap.size ∧ ∀ o, w.heap[g]? = some o → Slices o ∧ o.isCells = true := by
 intro g hg
 have hlt := h.1.lt g hg
 refine ⟨hlt.1, hlt.2, fun o ho => ⟨h.2 g o hg ho, ?_⟩⟩
 rcases h.1.2 with ⟨rfl, -⟩ | ⟨g', cap, cur, rfl, hb, hg', -⟩
 ·
  simp [Value.ownBlock] at hg
 ·
  simp [Value.ownBlock] at hg
  subst hg
  rw [hg'] at ho
  rw [← Option.some.inj ho]
  rfl
theorem Only.grown {c : Nat → Obj → Prop} {A B : World} {row : Option Nat} (h : A.grownBy B row) (hc : ∀ g o, row = some g → A.heap[g]? = some o → c g o) : Only c A B :=
 ⟨h.os, h.tape, h.output, h.size, fun b o hb hn => (h.block b (Array.getElem?_eq_some_iff.1 hb).1 (fun e => hn (hc b o e.symm hb))).trans hb⟩
set_option maxRecDepth 100000 in
set_option maxHeartbeats 8000000 in
theorem appendseq_in (p : List Int) (M : Nat) (hp0 : 0 < p.length) (hpl : p.length ≤ 65) (hpe : Ends p) (hps : ∀ r ∈ stm p, ∀ x ∈ r, zs M x) (hM : M ≤ 90000000) (hsl : (stm p).length ≤ 1000) (b : Nat) (w : World) (hbw : b < w.heap.size) (vp : Value)
  (hb : Blk w b 25 [vp]) (hr : Row w vp p.length (civ p)) (D : Nat) (hD : D ≤ w.heap.size) (hpf : ∀ b, vp.ownBlock = some b → D ≤ b) :
  CallsIn Fence.wide 8 Try.prog 69 #[.slice none 0 0, .func (.func 70) #[] #[.pointer (some ⟨b, 0, none⟩)]] w (TabRet D b (stm p) w) := by
 refine callsIn_of_wp_marks Try.func69 rfl trivial ?_ rfl
 simp only [Try.ntmps69, List.size_toArray, List.length_cons, List.length_nil, Nat.reduceAdd, Nat.reduceSub, Array.replicate_succ, Array.replicate_zero, List.push_toArray, List.append_toArray, List.nil_append, List.cons_append]
 have hal : Below w.heap.size w (w.alloc (.cells #[.slice none 0 0] 43)) := (Below.refl _ w).alloc (Nat.le_refl _) _
 obtain ⟨w4, hw4⟩ : ∃ w4, w4 = w.alloc (.cells #[.slice none 0 0] 43) := ⟨_, rfl⟩
 have hbs : Blk w4 w.heap.size 43 [.slice none 0 0] := by rw [hw4]; exact Blk.new w _ _
 rw [← hw4] at hal
 have hb4 := hb.keep hal
 have hr4 := Row.below hr hal (Nat.le_refl _)
 have hbel : Below b w w4 := hal.mono (by omega)
 have hsz4 : w4.heap.size = w.heap.size + 1 := by rw [hw4]; simp
 have HB4 := zh hb4; clear hb4
 have HR4 := zh hr4; clear hr4
 have HBL := zh hbel; clear hbel
 have HBS := zh hbs; clear hbs
 clear hal hb hr
 gi_wp2
 rw [← hw4]
 clear hw4
 refine range_b (n := 8) (α := Hdr) (encs := fun x : Hdr => #[hv x]) (cI := chI b) (cC := chC w.heap.size) (S := fun xs W => Rws D W xs (stm p)) rfl (by decide) (gf := 70) (lb := #[.pointer (some ⟨b, 0, none⟩)]) rfl trivial (enters_of Try.func70 (by kernel_rfl) rfl)
  (chain_seq 7 (by decide) p M hp0 hpl hpe hps hM b w.heap.size hbw _ _ HB4.out HR4.out D (by omega) hpf)
  (fun _ _ h => h.2.1) (fun _ _ h => ⟨Slices.of_not h, Or.inr h⟩) (fun _ => rfl)
  (fun pre W => Below b w W ∧ w.heap.size < W.heap.size ∧ ∃ v, Blk W w.heap.size 43 [v] ∧ OwnS W (w.heap.size + 1) v pre) ?hI ?h0 ?hS ?a1 ?assign ?body ?done
 case h0 => exact ⟨HBL.out, by omega, _, HBS.out, OwnS.nil _ _⟩
 case hI =>
  rintro s A B ⟨i1, i0, v, i2, i3⟩ ho
  refine ⟨ho.below i1 (by omega) (fun k o hk h => ?_), Nat.lt_of_lt_of_le i0 ho.size, v, ho.blk i2 (fun o h => ?_), i3.only ho (fun g o hg hc h => ?_)⟩
  ·
   rcases h with h | h
   ·
    exact absurd h.1 (by omega)
   ·
    omega
  ·
   rcases h with h | h
   ·
    exact absurd h.1 (by omega)
   ·
    omega
  ·
   rcases h with h | h
   ·
    exact absurd h.1 (by omega)
   ·
    rw [hc] at h; cases h.1
 case hS =>
  intro xs A B h ho
  exact h.only ho (fun _ _ h => Slices.of_not h.1)
 case assign =>
  intro l x W K hK
  gi_wp2
  exact hK
 case body =>
  rintro l pre ⟨xa, xn, xm⟩ W hN ⟨i1, i0, v, i2, i3⟩
  obtain ⟨va, vc, rfl⟩ := own_slice i3.1
  have c2 := i2.c 0 rfl
  simp only [hv]
  have ha3 := i3.alloc (.cells #[.slice xa xn xm] 25)
  have hcell : (W.alloc (.cells #[.slice xa xn xm] 25)).cell? ⟨W.heap.size, 0, none⟩ = some (hv (xa, xn, xm)) := (Blk.new W 25 [.slice xa xn xm]).c 0 rfl
  have hpl : pre.length ≤ 100000 := by omega
  have hobj : ∀ g, (Value.slice va pre.length vc).ownBlock = some g → w.heap.size + 1 ≤ g ∧ g < W.heap.size ∧ ∀ o, W.heap[g]? = some o → Slices o ∧ o.isCells = true := i3.obj
  have hne : (Value.slice va pre.length vc).ownBlock ≠ some w.heap.size := fun e => by have := (hobj _ e).1; omega
  have HA3 := zh ha3; clear ha3
  have HCELL := zh hcell; clear hcell
  have I1 := zh i1; clear i1
  have I2 := zh i2; clear i2
  have HOBJ := zh hobj; clear hobj
  have HNE := zh hne; clear hne
  clear i3 hN
  gi_wp2_with (gi_at_builtin; refine wpListIn_append_s _ rfl (.tmp 8) (.tmp 10) rfl (w.heap.size + 1) _ pre rfl HA3.out (xa, xn, xm) ⟨W.heap.size, 0, none⟩ 1 rfl HCELL.out hpl (by rw [World.size_alloc]; omega) ?_; intro v9 W9 own9 hg9; have i9 := (I2.out.alloc (.cells #[.slice xa xn xm] 25)).grown hg9 HNE.out; have c9 := i9.c 0 rfl; have f9 := i9.frozen 0; have I9 := zh i9; clear i9; obtain ⟨a9, c9', rfl⟩ := own_slice own9.1; have OWN9 := zh own9; clear own9; have HG9 := zh hg9; clear hg9)
  have hl9 : (pre ++ [(xa, xn, xm)]).length = pre.length + 1 := by simp
  have own9 := OWN9.out
  rw [hl9] at own9
  have o1 : Only (fun b o => chC w.heap.size b o ∧ o.isCells = true) W (W.alloc (.cells #[.slice xa xn xm] 25)) := Only.alloc _ _ _
  have o2 : Only (fun b o => chC w.heap.size b o ∧ o.isCells = true) (W.alloc (.cells #[.slice xa xn xm] 25)) W9 := Only.grown HG9.out (fun g o hg ho => by
   obtain ⟨h1, h2, h3⟩ := HOBJ.out g hg
   rw [Below.heap_alloc _ _ _ h2] at ho
   exact ⟨⟨(h3 o ho).1, Or.inl (by omega)⟩, (h3 o ho).2⟩)
  have o3 : Only (fun b o => chC w.heap.size b o ∧ o.isCells = true) W9 (W9.setCell ⟨w.heap.size, 0, none⟩ (.slice a9 (pre.length + 1) c9')) := Only.setCell _ (fun o ho => by
   have e : o = .cells #[.slice va pre.length vc] 43 (0, 0) := by
    have h5 : W9.heap[w.heap.size]? = some (.cells #[.slice va pre.length vc] 43 (0, 0)) := I9.out
    have h6 : W9.heap[w.heap.size]? = some o := ho
    rw [h5] at h6
    exact (Option.some.inj h6).symm
   subst e
   exact ⟨⟨Slices.one _ _ _ _, Or.inl (Nat.le_refl _)⟩, rfl⟩)
  have o4 := (o1.trans o2).trans o3
  refine ⟨o4, o4.below I1.out (by omega) (fun k o hk h => ?_), ?_, _, I9.out.set 0 _, own9.setOther (a := ⟨w.heap.size, 0, none⟩) (by show w.heap.size < w.heap.size + 1; omega) _⟩
  ·
   rcases h.1.2 with h1 | h1
   ·
    omega
   ·
    rw [h.2] at h1; cases h1
  ·
   have := o4.size; (try rw [World.size_setCell] at this); (try rw [World.size_setCell]); omega
 case done =>
  rintro D' xs W hD' hS ⟨i1, i0, v, i2, i3⟩ hdef
  obtain ⟨va, vc, rfl⟩ := own_slice i3.1
  have c2 := i2.c 0 rfl
  have HS := zh hS; clear hS
  have I1 := zh i1; clear i1
  have I3 := zh i3; clear i3
  clear i2
  gi_wp2
  refine leaves_marks w4.heap.size (fun W => Below b w W ∧ OwnS W (w.heap.size + 1) (.slice va xs.length vc) xs ∧ Rws D W xs (stm p)) (fun W D' hB hk hD' => ?hst) (fun W hk => ?hfin) [D'] _ ⟨I1.out, I3.out, HS.out⟩ (fun D'' h' => ?hd) (List.nodup_cons.2 ⟨by simp, List.nodup_nil⟩) (fun D'' h' => ?hge)
  case hst =>
   have ho : Only (fun k o => o.isCells = false ∧ w4.heap.size ≤ k) W (W.putObj D' (.deferred none)) := Only.putObj hD' ⟨rfl, hB⟩ _
   exact ⟨ho.below hk.1 (by omega) (fun k o hk h => by omega), hk.2.1.only ho (fun g o _ hc h => by rw [hc] at h; cases h.1), hk.2.2.only ho (fun _ _ h => Slices.of_not h.1)⟩
  case hfin =>
   refine ⟨.slice va xs.length vc, ?_, hk.1, _, rfl, tab_of hk.2.1 hk.2.2 (by omega)⟩
   simp [results, Try.results69, go_sem]
  case hd =>
   obtain rfl : D'' = D' := by simpa using h'
   exact hdef
  case hge =>
   obtain rfl : D'' = D' := by simpa using h'
   exact hD'
theorem collect_any (p : List Int) (M : Nat) (hp0 : 0 < p.length) (hpl : p.length ≤ 65) (hpe : Ends p) (hps : ∀ r ∈ stm p, ∀ x ∈ r, zs M x) (hM : M ≤ 90000000) (hsl : (stm p).length ≤ 1000) (b : Nat) (w : World) (hbw : b < w.heap.size) (vp : Value)
  (hb : Blk w b 25 [vp]) (hr : Row w vp p.length (civ p)) (D : Nat) (hD : D ≤ w.heap.size) (hpf : ∀ b, vp.ownBlock = some b → D ≤ b) :
  Calls Try.prog 53 #[.func (.func 70) #[] #[.pointer (some ⟨b, 0, none⟩)]] w (TabRet D b (stm p) w) := by
 have hc := (callsIn_wide (n := 8)).1 (appendseq_in p M hp0 hpl hpe hps hM hsl b w hbw vp hb hr D hD hpf)
 have HC := zh hc; clear hc
 clear hps hb hr
 go_enter Try.func53, Try.ntmps53
 go_wp2_with fail
 refine (HC.out).mono ?_
 rintro e w1 ⟨hq, v, rfl, ht⟩
 dsimp only
 have HT := zh ht; clear ht
 have HQ := zh hq; clear hq
 go_wp2_with fail
 refine bodyPost_ret (v := v) (by simp [results, Try.results53, go_sem]) rfl ⟨HQ.out, v, rfl, HT.out⟩
theorem schain_any (a : Option Addr) (n c : Nat) (w : World) :
  Calls Try.prog 54 #[.slice a n c] w fun e w' => e = .returned (.func (.func 70) #[] #[.pointer (some ⟨w.heap.size, 0, none⟩)]) ∧ w' = w.alloc (.cells #[.slice a n c] 25) := by
 go_enter Try.func54, Try.ntmps54
 go_wp2_with fail
 go_ret
 exact ⟨rfl, rfl⟩
structure AFine (l : List Int) (M : Nat) : Prop where
 len : l.length ≤ 65
 pos : 0 < l.length
 ends : Ends l
 hM : M ≤ 90000000
 z : ∀ x ∈ l, zs M x
 zd : ∀ x ∈ der l, zs M x
 g : GFine (prm l, prm (der l)) M
 c : ∀ r ∈ stmA l, ∀ x ∈ r, zs M x
 sl : (stmA l).length ≤ 1000
 sp : 0 < (sqf l).length
def AllRetF (rows : List (List Int)) (w : World) (e : Ending) (w' : World) : Prop := Below w.heap.size w w' ∧ ∃ v, e = .returned (.tuple #[v, .int .i64 0]) ∧ TabF w.heap.size w' v rows
def AllRet (rows : List (List Int)) (w : World) (e : Ending) (w' : World) : Prop := Below w.heap.size w w' ∧ ∃ v, e = .returned (.tuple #[v, .int .i64 0]) ∧ Tab w' v rows
theorem sqf_len {l : List Int} (h : 0 < l.length) : (sqf l).length ≤ l.length := by
 unfold sqf
 rw [prm_length]
 have h1 := pdv_len1 l (gcdP l (der l))
 have h2 : 0 < (gcdP l (der l)).length := gsts_pos (p := (prm l, prm (der l))) (by show 0 < (prm l).length; rw [prm_length]; exact h) _
 omega
theorem sqf_ends (l : List Int) : Ends (sqf l) := prm_ends (pdv_ends1 _ _)
set_option maxRecDepth 100000 in
set_option maxHeartbeats 3200000 in
theorem sall_fresh (l : List Int) (v : Value) (w : World) (M : Nat) (hr : Row w v l.length (civ l)) (hf : AFine l M) :
  Calls Try.prog 27 #[v] w (AllRetF (stmA l) w) := by
 have hsq := Squarefree_fresh l v w M hr hf.len hf.pos hf.z hf.zd hf.ends hf.hM hf.g
 have hco := fun b w' hbw vp h1 h2 D hD hpf => collect_any (sqf l) M hf.sp (Nat.le_trans (sqf_len hf.pos) hf.len) (sqf_ends l) hf.c hf.hM hf.sl b w' hbw vp h1 h2 D hD hpf
 have hst : stm (sqf l) = stmA l := rfl
 rw [hst] at hco
 obtain ⟨R, hR⟩ : ∃ R, R = stmA l := ⟨_, rfl⟩
 rw [← hR] at hco ⊢
 obtain ⟨Q, hQ⟩ : ∃ Q, Q = sqf l := ⟨_, rfl⟩
 rw [← hQ] at hsq hco
 obtain ⟨n, hn⟩ : ∃ n, n = Q.length := ⟨_, rfl⟩
 unfold PolRetEF at hsq
 rw [← hn] at hsq hco
 have HSQ := zh hsq; clear hsq
 have HCO := zh hco; clear hco
 clear hr hf hst hR hQ hn
 go_enter Try.func27, Try.ntmps27
 go_wp2_with fail
 refine (HSQ.out).mono ?_
 rintro e1 w1 ⟨hq1, v1, rfl, hv1, hf1⟩
 dsimp only
 obtain ⟨a1, c1, rfl, -⟩ := hv1.slice
 have S1 := zh hq1; clear hq1
 have HV1 := zh hv1; clear hv1
 go_wp2_with fail
 refine (schain_any _ _ _ _).mono ?_
 rintro e2 w2 ⟨rfl, rfl⟩
 dsimp only
 have hal : Below w1.heap.size w1 (w1.alloc (.cells #[.slice a1 n c1] 25)) := (Below.refl _ _).alloc (Nat.le_refl _) _
 have hco := HCO.out w1.heap.size _ (by simp) _ (Blk.new w1 25 [.slice a1 n c1]) (HV1.out.below hal (Nat.le_refl _)) w.heap.size (by have := S1.out.size; simp; omega) hf1
 have s2 := S1.out.trans (hal.mono S1.out.size)
 have hsz := S1.out.size
 have S2 := zh s2; clear s2
 have HCO2 := zh hco; clear hco
 clear hal HV1 HCO S1
 go_wp2_with fail
 refine (HCO2.out).mono ?_
 rintro e3 w3 ⟨hq3, v3, rfl, hv3⟩
 dsimp only
 have s3 := S2.out.trans (hq3.mono hsz)
 have S3 := zh s3; clear s3
 have HV3 := zh hv3; clear hv3
 clear hq3
 go_wp2_with fail
 refine bodyPost_ret (v := .tuple #[v3, .int .i64 0]) (by simp [results, Try.results27, go_sem]) rfl ⟨S3.out, v3, rfl, HV3.out⟩
theorem sall_any (l : List Int) (v : Value) (w : World) (M : Nat) (hr : Row w v l.length (civ l)) (hf : AFine l M) :
  Calls Try.prog 27 #[v] w (AllRet (stmA l) w) :=
 (sall_fresh l v w M hr hf).mono (by rintro e w' ⟨h1, v', h2, h3⟩; exact ⟨h1, v', h2, h3.tab⟩)
end Go.Proofs.Ytjpalbonclgflaa

/- sturm.check at a canonical polynomial; Chain, Bound, Roots, Count. -/
namespace Go.Proofs.Ytjpalbonclgflaa
open Go.RowKit

set_option maxRecDepth 100000 in
set_option maxHeartbeats 3200000 in
theorem scheck_any (l : List Int) (vp : Value) (q : List RawQ) (vq : Value) (w : World) (hr : Row w vp l.length (civ l)) (hrq : Row w vq q.length (crv q)) (hl0 : 0 < l.length) (hl : l.length ≤ 65) (hs : ∀ x ∈ l, small x) (he : Ends l)
  (hqs : ∀ x ∈ q, x.2.1.size ≤ 20000000000 ∧ x.2.2.2.size ≤ 20000000000) :
  Calls Try.prog 26 #[vp, vq] w (Ret w (.int .i64 (if oddQ q then 1 else 0))) := by
 have hc := canon_any l vp w hr (by omega) hs
 unfold CanRet at hc
 rw [tzI_id he] at hc
 have heq := fun va vb w' h1 h2 => equalI_yes l va vb w' h1 h2
 have hcf := fun w' h => cfQ_any q vq w' h hqs
 obtain ⟨t, ht⟩ : ∃ t, t = oddQ q := ⟨_, rfl⟩
 rw [← ht] at hcf ⊢
 obtain ⟨va, vc, rfl, -⟩ := hr.slice
 obtain ⟨n, hn⟩ : ∃ n, n = l.length := ⟨_, rfl⟩
 rw [← hn] at hr hc heq hl hl0 ⊢
 have hn0 : ((n : Int) == 0) = false := by simp; omega
 have hn65 : decide (65 < (n : Int)) = false := decide_eq_false (by omega)
 obtain ⟨qa, qc, rfl, -⟩ := hrq.slice
 obtain ⟨lq, hlq⟩ : ∃ n, n = q.length := ⟨_, rfl⟩
 rw [← hlq] at hrq hcf ⊢
 have HR := zh hr; clear hr
 have HRQ := zh hrq; clear hrq
 have HC := zh hc; clear hc
 have HEQ := zh heq; clear heq
 have HCF := zh hcf; clear hcf
 clear hs he hqs ht hn hl hl0 hlq
 cases t
 all_goals
  go_enter Try.func26, Try.ntmps26
  go_wp2_with fail
  refine (HC.out).mono ?_
  rintro e1 w1 ⟨hq1, v1, rfl, hv1⟩
  dsimp only
  have hr1 := HR.out.below hq1 (Nat.le_refl _)
  have hrq1 := HRQ.out.below hq1 (Nat.le_refl _)
  have he1 := HEQ.out _ _ _ hv1 hr1
  clear hv1 hr1
  have S1 := zh hq1; clear hq1
  have HRQ1 := zh hrq1; clear hrq1
  have HE1 := zh he1; clear he1
  go_wp2_with fail
  refine (HE1.out).mono ?_
  rintro e2 w2 ⟨hq2, rfl⟩
  dsimp only
  have s2 := S1.out.trans (hq2.mono S1.out.size)
  have hcf2 := HCF.out _ (HRQ1.out.below hq2 (Nat.le_refl _))
  clear S1 HE1 HRQ1 hq2
  have S2 := zh s2; clear s2
  have HCF2 := zh hcf2; clear hcf2
  go_wp2_with fail
  refine (HCF2.out).mono ?_
  rintro e3 w3 ⟨hq3, rfl⟩
  dsimp only
  have s3 := S2.out.trans (hq3.mono S2.out.size)
  clear S2 hq3
  have S3 := zh s3; clear s3
  go_wp2_with fail
  go_ret
  exact ⟨S3.out, rfl⟩
end Go.Proofs.Ytjpalbonclgflaa

/- sturm.Chain, Bound, Roots (printed by gen_std.py). -/
namespace Go.Proofs.Ytjpalbonclgflaa
open Go.RowKit

theorem AFine.small {l : List Int} {M : Nat} (h : AFine l M) : ∀ x ∈ l, small x := fun x hx => by have := (h.z x hx).size; have := h.hM; unfold Go.Proofs.Ytjpalbonclgflaa.small; omega
theorem scheck_nil (l : List Int) (vp : Value) (w : World) {M : Nat} (hr : Row w vp l.length (civ l)) (hf : AFine l M) : Calls Try.prog 26 #[vp, .slice none 0 0] w (Ret w (.int .i64 0)) :=
 scheck_any l vp [] _ w hr (Row.nil _) hf.pos hf.len hf.small hf.ends (fun x hx => absurd hx (by simp))
set_option maxRecDepth 100000 in
set_option maxHeartbeats 3200000 in
theorem sChain_any (l : List Int) (v : Value) (w : World) (M : Nat) (hr : Row w v l.length (civ l)) (hf : AFine l M) :
  Calls Try.prog 12 #[v] w (AllRet (stmA l) w) := by
 have hck := scheck_nil l v w hr hf
 have hal := fun w' h => sall_any l v w' M h hf
 obtain ⟨R, hR⟩ : ∃ R, R = stmA l := ⟨_, rfl⟩
 rw [← hR] at hal ⊢
 obtain ⟨va, vc, rfl, -⟩ := hr.slice
 obtain ⟨n, hn⟩ : ∃ n, n = l.length := ⟨_, rfl⟩
 rw [← hn] at hr hck hal ⊢
 unfold AllRet at hal
 have HR := zh hr; clear hr
 have HCK := zh hck; clear hck
 have HAL := zh hal; clear hal
 clear hf hR hn
 go_enter Try.func12, Try.ntmps12
 go_wp2_with fail
 refine (HCK.out).mono ?_
 rintro e1 w1 ⟨hq1, rfl⟩
 dsimp only
 have ha := HAL.out _ (HR.out.below hq1 (Nat.le_refl _))
 have HA := zh ha; clear ha
 have S1 := zh hq1; clear hq1
 go_wp2_with fail
 refine (HA.out).mono ?_
 rintro e2 w2 ⟨hq2, v2, rfl, hv2⟩
 dsimp only
 have s2 := S1.out.trans (hq2.mono S1.out.size)
 have S2 := zh s2; clear s2
 have HV2 := zh hv2; clear hv2
 clear hq2
 go_wp2_with fail
 refine bodyPost_ret (v := .tuple #[v2, .int .i64 0]) (by simp [results, Try.results12, go_sem]) rfl ⟨S2.out, v2, rfl, HV2.out⟩
set_option maxRecDepth 100000 in
set_option maxHeartbeats 3200000 in
theorem sBound_any (l : List Int) (v : Value) (w : World) (M : Nat) (hr : Row w v l.length (civ l)) (hf : AFine l M) :
  Calls Try.prog 13 #[v] w (Ret w (.tuple #[IntV (bnd l : Int), .int .i64 0])) := by
 have hck := fun w' h => scheck_nil l v w' h hf
 have hbo := fun w' h => sbound_any l v w' M h hf.pos (by have := hf.len; omega) hf.ends hf.z (by have := hf.hM; omega)
 obtain ⟨B, hB⟩ : ∃ B : Int, B = (bnd l : Int) := ⟨_, rfl⟩
 rw [← hB] at hbo ⊢
 clear hf hB
 obtain ⟨va, vc, rfl, -⟩ := hr.slice
 obtain ⟨n, hn⟩ : ∃ n, n = l.length := ⟨_, rfl⟩
 rw [← hn] at hr hck hbo ⊢
 clear hn
 have HRW := zh hr; clear hr
 have HCK := zh hck; clear hck
 have HBO := zh hbo; clear hbo
 obtain ⟨w4, hw4⟩ : ∃ w4, w4 = w.alloc (.cells #[.bool false, .string ⟨#[]⟩] 33) := ⟨_, rfl⟩
 have k_r : Blk w4 (w.heap.size) 33 [.bool false, .string ⟨#[]⟩] := by
  rw [hw4]
  have h := (Blk.new (w) 33 [.bool false, .string ⟨#[]⟩])
  (try simp only [World.size_alloc, Nat.add_assoc, Nat.reduceAdd] at h)
  exact h
 have tl : Below w.heap.size w w4 := by
  rw [hw4]
  exact ((Below.refl w.heap.size w).alloc (by simp <;> omega) (.cells #[.bool false, .string ⟨#[]⟩] 33))
 have hs4 : w4.heap.size = w.heap.size + 1 := by rw [hw4]; simp only [World.size_alloc]
 obtain ⟨r_0, r_f0, r_1, r_f1⟩ := k_r.f2
 have HR := zh k_r; clear k_r
 have HBL := zh tl; clear tl
 go_enter Try.func13, Try.ntmps13
 go_wp2_with fail
 (try rw [← hw4])
 clear hw4
 (try simp only [Nat.add_assoc, Nat.reduceAdd])
 have hck := HCK.out _ (HRW.out.below HBL.out (Nat.le_refl _))
 have HCK1 := zh hck; clear hck
 refine (HCK1.out).mono ?_
 rintro e w5 ⟨hq, rfl⟩
 dsimp only
 have k_r := HR.out.keep hq
 have tl := HBL.out.trans ((hq).mono HBL.out.size)
 clear HBL HR
 clear r_0 r_f0 r_1 r_f1
 obtain ⟨r_0, r_f0, r_1, r_f1⟩ := k_r.f2
 have HR := zh k_r; clear k_r
 have HBL := zh tl; clear tl
 clear hq
 have hbo := HBO.out _ (HRW.out.below HBL.out (Nat.le_refl _))
 have HBO1 := zh hbo; clear hbo
 go_wp2_with fail
 refine (HBO1.out).mono ?_
 rintro e w6 ⟨hq, rfl⟩
 dsimp only
 have k_r := HR.out.keep hq
 have tl := HBL.out.trans ((hq).mono HBL.out.size)
 clear HBL HR
 clear r_0 r_f0 r_1 r_f1
 obtain ⟨r_0, r_f0, r_1, r_f1⟩ := k_r.f2
 have HR := zh k_r; clear k_r
 have HBL := zh tl; clear tl
 clear hq
 go_wp2_with fail
 have hrv : IntV B = .agg #[.bool (ineg B), .string (imag B)] := rfl
 have kz := ((HR.out.set 0 (.bool (ineg B))).set 1 (.string (imag B)))
 have sz := ((HBL.out.setCell (p := ⟨w.heap.size, 0, none⟩) (by show w.heap.size ≤ w.heap.size; omega) (.bool (ineg B))).setCell (p := ⟨w.heap.size, 1, none⟩) (by show w.heap.size ≤ w.heap.size; omega) (.string (imag B)))
 have e0 := kz.c 0 rfl
 have e1 := kz.c 1 rfl
 refine bodyPost_ret (v := .tuple #[IntV B, .int .i64 0]) (by rw [hrv]; simp [results, Try.results13, go_sem, e0, e1]) rfl ⟨sz, rfl⟩
end Go.Proofs.Ytjpalbonclgflaa

